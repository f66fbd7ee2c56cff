/- Part of a proof that a law returns true for every input. No condition. -/
import Derived.Test.YtbemmmimelklkaaFwE
import Derived.Orders
import Derived.KernelRfl
import Derived.Test.YtbemmmimelklkaaFwA
namespace Go.cB
section
variable {C : bZ} {w0 w : World} {F0 X : Nat → Prop} {n : Fr} {ρ : Nat → Value} {s s1 : aj} {a : Act} {av : I} {Q : Exit → Act → World → Prop}
def cg.un (o : cg) : cg := ⟨o.dst, o.bu.base, o.guard⟩
theorem tw {ops : Array Oper} : ∀ {os : List Oper} {rs : List cg}, ni n ops os = some rs → os.length = rs.length ∧ ∀ (i : Nat) (o : Oper), os[i]? = some o → ∃ r, rs[i]? = some r ∧ nh n ops o = some r := by
 intro os
 induction os with
 | nil => intro rs h; simp only [ni, Option.some.injEq] at h; subst h; exact ⟨rfl, fun i o h => by simp at h⟩
 | cons o os ih =>
   intro rs h
   simp only [ni] at h
   split at h
   ·rename_i r ag_ ab af
    simp only [Option.some.injEq] at h; subst h
    obtain ⟨bN, b6⟩ := ih af
    refine ⟨by simp [bN], fun i ld bU => ?_⟩
    cases i with
    | zero => simp at bU; subst bU; exact ⟨r, rfl, ab⟩
    | succ i => simpa using b6 i ld (by simpa using bU)
   ·cases h
theorem wC {o : Oper} {y : Nat → Option Bool} (h : o.guard = none) : Region.wanted o y = true := by simp [Region.wanted, h]
theorem Ly (h : Rel w0 F0 X n ρ s a w) {ops : Array Oper} {j t : Nat} (bS : (ops[j]?).bind (·.dst) = some t) :
  (∀ b, s t = .bool b → yielded ops a.tmps j = some b) ∧ (s t = .tuple [] → yielded ops a.tmps j = none) := by
 obtain ⟨ah, aa, bB, F, S, aO⟩ := h
 have hJ := aO.da t
 refine ⟨fun b U => ?_, fun U => ?_⟩
 ·rw [U] at hJ
  have aK := pz hJ
  simp only [yielded, bS, Option.bind_some]
  rw [Array.getD_eq_getD_getElem?] at aK
  cases bO : a.tmps[t]? with
  | none => rw [bO] at aK; simp [undef] at aK
  | some v => rw [bO] at aK; simp at aK; subst aK; rfl
 ·rw [U] at hJ
  obtain ⟨⟨arr, ab, af⟩, _⟩ := (aH.cv (d := .tuple []) rfl).1 hJ
  simp only [yielded, bS, Option.bind_some]
  rw [Array.getD_eq_getD_getElem?] at ab
  cases bO : a.tmps[t]? with
  | none => rfl
  | some v => rw [bO] at ab; simp at ab; subst ab; rfl
theorem Au (bp : C.Ok) {ops : Array Oper} {ros : List cg} {l2 : List Nat} {K : aj → Prop} (bl : ∀ ao cl aD, K ao → Rel w0 F0 X n ρ ao cl aD → wpOps C.P ops Q l2 cl aD) :
  ∀ (l : List Nat), (∀ i ∈ l, (ops[i]? = none → ros[i]? = none) ∧ ∀ o, ops[i]? = some o → ∃ r, ros[i]? = some r ∧ nh n ops o = some r.un) →
  ∀ (s : aj) (a : Act) (w : World), iq C ros s l K → Rel w0 F0 X n ρ s a w → wpOps C.P ops Q (l ++ l2) a w := by
 intro l
 induction l with
 | nil => intro _ s a w h aO; exact bl s a w h aO
 | cons i l ih =>
   intro nk s a w h aO
   replace ih := ih fun i ak => nk i (List.mem_cons_of_mem _ ak)
   rw [List.cons_append]
   simp only [wpOps]
   cases bU : ops[i]? with
   | none =>
     simp only [iq, (nk i (by simp)).1 bU] at h
     exact ih s a w h aO
   | some o =>
     obtain ⟨r, ab, af⟩ := (nk i (by simp)).2 o bU
     simp only [iq, ab] at h
     show (if Region.wanted o (yielded ops a.tmps) = true then o.wp C.P a w (wpOps C.P ops Q (l ++ l2)) Q ∨ (o.asks C.P a w ∧ LetsOut Q) else wpOps C.P ops Q (l ++ l2) (a.put o.dst undef) w)
     simp only [nh] at af
     split at af
     ·rename_i wD
      split at af
      ·rename_i g bO
       obtain ⟨rd, bu, rg⟩ := r
       simp only [cg.un, Option.some.injEq, cg.mk.injEq] at af
       obtain ⟨rfl, ck, rfl⟩ := af
       simp only [j3] at h
       have run : ∀ (cW : aj → Prop), (∀ ao, cW ao → iq C ros ao l K) → lU C s bu (fun av s1 => cW (fin s1 o.dst av)) → o.wp C.P a w (wpOps C.P ops Q (l ++ l2)) Q :=
        fun cW i2 hw => Lw bp aO ck wD hw (fun ao cl aD ay dR => ih ao cl aD (i2 ao ay) dR)
       cases rm : o.guard with
       | none =>
         rw [rm] at bO
         simp only [tq, Option.some.injEq] at bO; subst bO
         simp only at h
         rw [if_pos (wC rm)]
         exact .inl (run _ (fun _ h => h) h)
       | some Av =>
         obtain ⟨j, b⟩ := Av
         rw [rm] at bO
         simp only [tq] at bO
         split at bO
         ·rename_i t aZ
          simp only [Option.some.injEq] at bO; subst bO
          simp only at h
          obtain ⟨fZ, jF⟩ := Ly aO aZ
          have Ee : ∀ (cW : iq C ros (fin s o.dst (.tuple [])) l K), wpOps C.P ops Q (l ++ l2) (a.put o.dst undef) w := fun cW => ih _ _ _ cW (Rel.skip aO wD)
          split at h
          ·rename_i eO aa
           have bC := fZ eO aa
           split at h
           ·rename_i U; subst U
            rw [if_pos (by simp [Region.wanted, rm, bC])]
            exact .inl (run _ (fun _ h => h) h)
           ·rename_i U
            rw [if_neg (by simp [Region.wanted, rm, bC, U])]
            exact Ee h
          ·rename_i aa
           have bC := jF aa
           rw [if_neg (by simp [Region.wanted, rm, bC])]
           exact Ee h
          ·exact h.elim
         ·cases bO
      ·cases af
     ·cases af
theorem Ef (bp : C.Ok) {ops : Array Oper} {ros : List cg} (oD : ni n ops ops.toList = some (ros.map cg.un)) {K : aj → Prop} (bl : ∀ ao cl aD, K ao → Rel w0 F0 X n ρ ao cl aD → Q .normal cl aD) :
  ∀ (l : List Nat) (s : aj) (a : Act) (w : World), iq C ros s l K → Rel w0 F0 X n ρ s a w → wpOps C.P ops Q l a w := by
 obtain ⟨hl, nk⟩ := tw oD
 intro l s a w h aO
 have := Au (Q := Q) bp (ros := ros) (ops := ops) (l2 := []) (K := K) (n := n) (ρ := ρ) (w0 := w0) (F0 := F0) (X := X) (fun ao cl aD ay dR => bl ao cl aD ay dR) l (fun i _ => ⟨fun bU => by
   rw [List.getElem?_eq_none_iff, ← List.length_map (f := cg.un), ← hl]
   have := Array.getElem?_eq_none_iff.1 bU
   simpa using this, fun o bU => by
   obtain ⟨aI, gp, af⟩ := nk i o (by simpa using bU)
   obtain ⟨r, ab, rfl⟩ : ∃ r, ros[i]? = some r ∧ r.un = aI := by simpa using gp
   exact ⟨r, ab, af⟩⟩) s a w h aO
 rwa [List.append_nil] at this
theorem Rel.drawn (h : Rel w0 F0 X n ρ s a w) (k : Nat) : Rel w0 F0 X n ρ s a { w with drawn := k } := by
 obtain ⟨ab, af, bB, F, S, aF⟩ := h
 exact ⟨ab, af, bB, F, S, aF.grow (fun _ _ => rfl) (Nat.le_refl _) rfl rfl rfl⟩
theorem Lz (bp : C.Ok) {id : Nat} {ops : Array Oper} {ros : List cg} (oD : ni n ops ops.toList = some (ros.map cg.un)) {K : aj → Prop} (bl : ∀ ao cl aD, K ao → Rel w0 F0 X n ρ ao cl aD → Q .normal cl aD)
  (h : jI C s ros K) (aO : Rel w0 F0 X n ρ s a w) : (Code.region id ops false).wp C.P Q a w := by
 refine wp_region (Ef bp oD bl _ s a w ?_ aO)
 have := Li C K ros [] s h
 have hl := (tw oD).1
 simp only [List.nil_append, List.length_nil, Nat.add_zero, List.map_id'] at this
 rw [List.length_map] at hl
 rw [← hl] at this
 simpa using this
end
def Aw (mH : List (List Nat)) (l : List Nat) : Prop :=
 l.Nodup ∧ (∀ i, i ∈ l ↔ i < mH.length) ∧ ∀ u i v, l = u ++ i :: v → ∀ e ∈ (mH[i]?).getD [], e ∈ u
def lV (ops : Array Oper) : List (List Nat) := ops.toList.map fun o => (o.after.toList.filter fun e => Region.binds .any e).map (·.on)
def tx (mH : List (List Nat)) : Bool := mH.zipIdx.all fun p => p.1.all fun e => decide (e < p.2)
theorem LA {mH : List (List Nat)} (h : tx mH = true) {i : Nat} {l : List Nat} (ak : mH[i]? = some l) : ∀ e ∈ l, e < i := by
 intro e he
 simp only [tx, List.all_eq_true] at h
 have := h (l, i) (by rw [List.mem_zipIdx_iff_getElem?]; exact ak) e he
 simpa using this
theorem LB {ops : Array Oper} (U : tx (lV ops) = true) : ∀ (fuel t : Nat) (fm : Array Bool), fm.size = ops.size → ((List.range ops.size).filter fun i => !fm.getD i true).length ≤ fuel →
  (Region.linearise.go .any ops fuel t fm []).Nodup ∧ (∀ i, i ∈ Region.linearise.go .any ops fuel t fm [] ↔ (i < ops.size ∧ fm.getD i true = false)) ∧
   ∀ u i v, Region.linearise.go .any ops fuel t fm [] = u ++ i :: v → ∀ e ∈ ((lV ops)[i]?).getD [], fm.getD e false = true ∨ e ∈ u := by
 intro fuel
 induction fuel with
 | zero =>
   intro t fm aa hl
   have s7 : ((List.range ops.size).filter fun i => !fm.getD i true) = [] := List.length_eq_zero_iff.1 (Nat.le_zero.1 hl)
   refine ⟨by simp [Region.linearise.go], fun i => ?_, fun u i v h => by simp [Region.linearise.go] at h⟩
   simp only [Region.linearise.go, List.reverse_nil, List.not_mem_nil, false_iff, not_and]
   intro ak bB
   have : i ∈ ((List.range ops.size).filter fun i => !fm.getD i true) := List.mem_filter.2 ⟨List.mem_range.2 ak, by rw [bB]; rfl⟩
   rw [s7] at this; cases this
 | succ fuel ih =>
   intro t fm aa hl
   have Eg : ∀ i, i ∈ Region.ready .any ops fm ↔ (i < ops.size ∧ fm.getD i true = false ∧ ∀ e ∈ ((lV ops)[i]?).getD [], fm.getD e false = true) := by
    intro i
    simp only [Region.ready, List.mem_filter, List.mem_range, Bool.and_eq_true, Bool.not_eq_true']
    constructor
    ·rintro ⟨ab, af, aF⟩
     refine ⟨ab, af, ?_⟩
     rw [Array.getElem?_eq_getElem ab] at aF
     simp only [Option.map_some, Option.getD_some, Array.all_eq_true_iff_forall_mem] at aF
     simp only [lV, List.getElem?_map, Array.getElem?_toList, Array.getElem?_eq_getElem ab, Option.map_some, Option.getD_some, List.mem_map, List.mem_filter]
     rintro e ⟨x, ⟨au, Ax⟩, rfl⟩
     have := aF x (by simpa using au)
     simpa [Ax] using this
    ·rintro ⟨ab, af, aF⟩
     refine ⟨ab, af, ?_⟩
     rw [Array.getElem?_eq_getElem ab]
     simp only [Option.map_some, Option.getD_some, Array.all_eq_true_iff_forall_mem]
     simp only [lV, List.getElem?_map, Array.getElem?_toList, Array.getElem?_eq_getElem ab, Option.map_some, Option.getD_some, List.mem_map, List.mem_filter] at aF
     intro x au
     cases Ax : Region.binds .any x with
     | false => simp
     | true => simpa using aF x.on ⟨x, ⟨by simpa using au, Ax⟩, rfl⟩
   have hex : (∃ i, i < ops.size ∧ fm.getD i true = false) → Region.ready .any ops fm ≠ [] := by
    rintro ⟨i, ab, af⟩
    have : ∃ i, (i < ops.size ∧ fm.getD i true = false) ∧ ∀ j, j < i → ¬ (j < ops.size ∧ fm.getD j true = false) := by
     induction i using Nat.strongRecOn with
     | _ i LC =>
       by_cases bS : ∃ j, j < i ∧ (j < ops.size ∧ fm.getD j true = false)
       ·obtain ⟨j, LD, LF, LG⟩ := bS
        exact LC j LD LF LG
       ·exact ⟨i, ⟨ab, af⟩, fun j LH al => bS ⟨j, LH, al⟩⟩
    obtain ⟨k, ⟨bN, b6⟩, et⟩ := this
    have : k ∈ Region.ready .any ops fm := (Eg k).2 ⟨bN, b6, fun e he => by
     cases b7 : (lV ops)[k]? with
     | none => rw [b7] at he; simp at he
     | some l =>
       rw [b7] at he
       have dQ := LA U b7 e he
       have := et e dQ
       rw [not_and] at this
       have := this (by omega)
       have lg : e < fm.size := by omega
       simp only [Array.getD_eq_getD_getElem?, Array.getElem?_eq_getElem lg, Option.getD_some] at this ⊢
       simpa using this⟩
    intro e; rw [e] at this; cases this
   have Eh : Region.linearise.go .any ops (fuel + 1) t fm [] = (match (Region.ready .any ops fm)[t % (Region.ready .any ops fm).length]? with
    | some i => Region.linearise.go .any ops fuel (t / (Region.ready .any ops fm).length) (fm.setIfInBounds i true) [i]
    | none => []) := rfl
   cases tz : (Region.ready .any ops fm)[t % (Region.ready .any ops fm).length]? with
   | none =>
     have s7 : Region.ready .any ops fm = [] := by
      cases aO : Region.ready .any ops fm with
      | nil => rfl
      | cons a l =>
        rw [aO] at tz
        have := List.getElem?_eq_none_iff.1 tz
        have af := Nat.mod_lt t (show 0 < (a :: l).length by simp)
        omega
     rw [Eh, tz]
     refine ⟨by simp, fun i => ?_, fun u i v h => by simp at h⟩
     simp only [List.not_mem_nil, false_iff]
     intro ak
     exact hex ⟨i, ak⟩ s7
   | some i =>
     have ak := (Eg i).1 (List.mem_of_getElem? tz)
     obtain ⟨Ay, Ei, LI⟩ := ak
     rw [Eh, tz]
     simp only
     rw [linearise_go_acc]
     simp only [List.reverse_singleton, List.singleton_append]
     have ov : ∀ j d, (fm.setIfInBounds i true).getD j d = if j = i then true else fm.getD j d := by
      intro j d
      split
      ·rename_i e; subst e
       simp [Array.getD_eq_getD_getElem?, Array.getElem?_setIfInBounds_self_of_lt (show j < fm.size by omega)]
      ·rename_i e
       simp [Array.getD_eq_getD_getElem?, Array.getElem?_setIfInBounds_ne (fun h => e h.symm)]
     obtain ⟨aY, bs, b_⟩ := ih (t / (Region.ready .any ops fm).length) (fm.setIfInBounds i true) (by simpa using aa) (by
      have ea : ((List.range ops.size).filter fun j => !(fm.setIfInBounds i true).getD j true) = ((List.range ops.size).filter fun i => !fm.getD i true).filter fun j => decide (j ≠ i) := by
       rw [List.filter_filter]
       apply List.filter_congr
       intro j _
       rw [ov]
       by_cases e : j = i <;> simp [e]
      rw [ea]
      have dQ : (((List.range ops.size).filter fun i => !fm.getD i true).filter fun j => decide (j ≠ i)).length < ((List.range ops.size).filter fun i => !fm.getD i true).length := by
       rw [List.length_filter_lt_length_iff_exists]
       exact ⟨i, List.mem_filter.2 ⟨List.mem_range.2 Ay, by rw [Ei]; rfl⟩, by simp⟩
      omega)
     refine ⟨?_, fun j => ?_, ?_⟩
     ·rw [List.nodup_cons]
      refine ⟨fun hm => ?_, aY⟩
      have := ((bs i).1 hm).2
      rw [ov, if_pos rfl] at this; cases this
     ·rw [List.mem_cons, bs, ov]
      by_cases e : j = i
      ·subst e; simp [Ay, Ei]
      ·simp [e]
     ·intro u j v h e he
      cases u with
      | nil =>
        simp only [List.nil_append, List.cons.injEq] at h
        obtain ⟨rfl, rfl⟩ := h
        exact .inl (LI e he)
      | cons wE u =>
        simp only [List.cons_append, List.cons.injEq] at h
        obtain ⟨rfl, h⟩ := h
        rcases b_ u j v h e he with bq | bq
        ·rw [ov] at bq
         split at bq
         ·rename_i ei; subst ei; exact .inr (by simp)
         ·exact .inl bq
        ·exact .inr (by simp [bq])
theorem LJ {ops : Array Oper} (U : tx (lV ops) = true) (t : Nat) : Aw (lV ops) (Region.linearise .any ops t) := by
 have Ej : ∀ i d, i < ops.size → (Array.replicate ops.size false).getD i d = false := by
  intro i d ak
  simp [Array.getD_eq_getD_getElem?, ak]
 obtain ⟨aY, bs, b_⟩ := LB U ops.size t (Array.replicate ops.size false) (by simp) (by
  have := List.length_filter_le (fun i => !(Array.replicate ops.size false).getD i true) (List.range ops.size)
  simpa using this)
 have hlen : (lV ops).length = ops.size := by simp [lV]
 refine ⟨aY, fun i => ?_, fun u i v h e he => ?_⟩
 ·rw [hlen]
  rw [show Region.linearise .any ops t = Region.linearise.go .any ops ops.size t (Array.replicate ops.size false) [] from rfl, bs]
  exact ⟨fun h => h.1, fun h => ⟨h, Ej i true h⟩⟩
 ·rcases b_ u i v h e he with bq | bq
  ·exfalso
   by_cases Ek : e < ops.size
   ·rw [Ej e false Ek] at bq; cases bq
   ·simp [Array.getD_eq_getD_getElem?, Ek] at bq
  ·exact bq
def R : List (Nat × I) → aj
 | [], _ => .hole
 | (u, d) :: l, t => if t = u then d else R l t
mutual
inductive dX : I → I → Prop
 | refl (d : I) : dX d d
 | mI (sz : Nat) : dX .bA (.aE sz [])
 | pT : dX .bA (.slice [])
 | any (b : Bool) : dX (.bool b) .dV
 | share (d : I) : d.tree = true → (∀ vs, d ≠ .tuple vs) → dX d d.share
 | agg {ds es : List I} : iP ds es → dX (.agg ds) (.agg es)
 | bd {d e : I} : dX d e → dX (.bd d) (.bd e)
 | aE {sz : Nat} {ds es : List I} : iP ds es → dX (.aE sz ds) (.aE sz es)
 | tuple {ds es : List I} : iP ds es → dX (.tuple ds) (.tuple es)
 | ref {d e : I} : dX d e → dX (.ref d) (.ref e)
 | trans {d e f : I} : dX d e → dX e f → dX d f
inductive iP : List I → List I → Prop
 | nil : iP [] []
 | cons {d e : I} {ds es : List I} : dX d e → iP ds es → iP (d :: ds) (e :: es)
end
mutual
theorem dX.wd : ∀ {d e : I}, dX d e → e.wd = d.wd
 | _, _, .refl _ => rfl
 | _, _, .mI _ => rfl
 | _, _, .pT => rfl
 | _, _, .any _ => rfl
 | _, _, .share d _ _ => I.vJ d
 | _, _, .agg h => by simp only [I.wd]; exact iP.wd h
 | _, _, .bd _ => rfl
 | _, _, .aE _ => rfl
 | _, _, .tuple h => by simp only [I.wd]; exact iP.wd h
 | _, _, .ref _ => rfl
 | _, _, .trans h k => (dX.wd k).trans (dX.wd h)
theorem iP.wd : ∀ {ds es : List I}, iP ds es → I.dp es = I.dp ds
 | _, _, .nil => rfl
 | _, _, .cons h aa => by simp only [I.dp]; rw [dX.wd h, iP.wd aa]
end
theorem iP.len {ds es : List I} (h : iP ds es) : es.length = ds.length := by
 induction ds generalizing es with
 | nil => cases h; rfl
 | cons d ds ih => cases h with | cons h aa => simp [ih aa]
theorem iP.all {sz : Nat} {ds es : List I} (h : iP ds es) (ah : ∀ d ∈ ds, d.wd = sz) : ∀ d ∈ es, d.wd = sz := by
 induction ds generalizing es with
 | nil => cases h; intro d ah; cases ah
 | cons d ds ih =>
   cases h with
   | cons h aa =>
     intro x au
     rcases List.mem_cons.1 au with rfl | au
     ·rw [h.wd]; exact ah d (by simp)
     ·exact ih aa (fun d hm => ah d (by simp [hm])) x au
section
variable {w0 w : World} {F0 X F : Nat → Prop} {S : Nat → Nat → Prop} {s ao : aj} {az : Nat → Value}
def LK (w : World) (F : Nat → Prop) (_d e : I) (cs : List Value) (S : Nat → Prop) : Prop :=
 ∃ gL gM : Nat → Prop, (∀ b, gL b → S b) ∧ (∀ b, gM b → S b) ∧ (∀ b, gM b → ¬ gL b) ∧ ∀ bI, (∀ b, F b ∨ gL b → bI b) → ax w bI e cs gM
mutual
theorem ax.wider : ∀ {d e : I}, dX d e → ∀ {F : Nat → Prop} {cs : List Value} {S : Nat → Prop}, ax w F d cs S → LK w F d e cs S
 | _, _, .refl _, F, cs, S, h => ⟨fun _ => False, S, fun _ h => h.elim, fun _ h => h, fun _ _ h => h, fun bI bo => ax.mono (fun b U => bo b (.inl U)) _ _ _ _ (fun _ h => h) h⟩
 | .bA, _, .mI sz, F, cs, S, h => ⟨fun _ => False, S, fun _ h => h.elim, fun _ h => h, fun _ _ h => h, fun bI bo => by simp only [ax] at h ⊢; exact .inl ⟨trivial, _, h⟩⟩
 | .bA, _, .pT, F, cs, S, h => ⟨fun _ => False, S, fun _ h => h.elim, fun _ h => h, fun _ _ h => h, fun bI bo => by simp only [ax] at h ⊢; exact .inl ⟨trivial, none, 0, h, Nat.zero_le _, fun _ => rfl⟩⟩
 | .bool _, _, .any b, F, cs, S, h => ⟨fun _ => False, S, fun _ h => h.elim, fun _ h => h, fun _ _ h => h, fun bI bo => by simp only [ax] at h ⊢; exact ⟨b, h⟩⟩
 | _, _, .share d _ _, F, cs, S, h => ⟨S, fun _ => False, fun _ h => h, fun _ h => h.elim, fun _ h => h.elim, fun bI bo => ax.shared (fun b U => bo b (.inl U)) d cs S (fun b U => bo b (.inr U)) h⟩
 | _, _, .agg hV, F, cs, S, h => by
   rw [ax] at h
   obtain ⟨gL, gM, ab, af, aF, bb⟩ := a6.wider hV h
   exact ⟨gL, gM, ab, af, aF, fun bI bo => by rw [ax]; exact bb bI bo⟩
 | _, _, .bd ah, F, cs, S, h => by
   rw [ax] at h
   obtain ⟨b, cur, ty, fr, aL, bN, b6, et, dy, fk, ej, iN⟩ := h
   obtain ⟨gL, gM, ab, af, aF, bb⟩ := ax.wider ah fk
   refine ⟨gL, fun c => c = b ∨ gM c, fun c al => ej c (ab c al), ?_, ?_, fun bI bo => ?_⟩
   ·rintro c (rfl | al)
    ·exact b6
    ·exact ej c (af c al)
   ·rintro c (rfl | al) bB
    ·exact iN (ab _ bB)
    ·exact aF c al bB
   ·rw [ax]
    exact ⟨b, cur, ty, fr, gM, bN, .inl rfl, et, dy, bb bI bo, fun c al => .inr al, fun al => iN (af _ al)⟩
 | .aE sz ds, .aE _ es, .aE hV, F, cs, S, h => by
   rw [ax] at h
   have hl := hV.len
   rcases h with ⟨ab, af⟩ | ⟨b, cap, cur, ty, fr, aL, bN, b6, et, dy, fk, ej, iN, eB, km, ow, El⟩
   ·refine ⟨fun _ => False, S, fun _ h => h.elim, fun _ h => h, fun _ _ h => h, fun bI _ => ?_⟩
    rw [ax]
    subst ab
    exact .inl ⟨List.length_eq_zero_iff.1 (by simpa using hl), af⟩
   ·obtain ⟨gL, gM, ab, af, aF, bb⟩ := a6.wider hV km
    refine ⟨gL, fun c => c = b ∨ gM c, fun c al => ow c (ab c al), ?_, ?_, fun bI bo => ?_⟩
    ·rintro c (rfl | al)
     ·exact b6
     ·exact ow c (af c al)
    ·rintro c (rfl | al) bB
     ·exact El (ab _ bB)
     ·exact aF c al bB
    ·rw [ax]
     refine .inr ⟨b, cap, cur, ty, fr, gM, by rw [hl]; exact bN, .inl rfl, et, dy, by rw [hl]; exact fk, ej, iN, hV.all eB, by rw [hl]; exact bb bI bo, fun c al => .inr al, fun al => El (af _ al)⟩
 | _, _, .tuple hV, F, cs, S, h => by
   rw [ax] at h
   obtain ⟨gL, gM, ab, af, aF, bb⟩ := a6.wider hV h
   exact ⟨gL, gM, ab, af, aF, fun bI bo => by rw [ax]; exact bb bI bo⟩
 | _, _, .ref ah, F, cs, S, h => by
   rw [ax] at h
   obtain ⟨b, o, dt, ab, af, aF, bb⟩ := h
   obtain ⟨gL, gM, bN, b6, et, dy⟩ := ax.wider ah bb
   refine ⟨fun _ => False, S, fun _ h => h.elim, fun _ h => h, fun _ _ h => h, fun bI bo => ?_⟩
   rw [ax]
   exact ⟨b, o, dt, ab, bo _ (.inl af), aF, ax.mono (fun _ h => h) _ _ _ _ (fun b U => b6 b U) (dy bI fun b U => bo b (U.imp id fun h => (bN b h).elim))⟩
 | _, _, .trans ah he, F, cs, S, h => by
   obtain ⟨gL, gM, ab, af, aF, bb⟩ := ax.wider ah h
   obtain ⟨Az, wF, bN, b6, et, dy⟩ := ax.wider he (F := fun b => F b ∨ gL b) (bb _ fun _ h => h)
   refine ⟨fun b => gL b ∨ Az b, wF, ?_, fun b U => af b (b6 b U), ?_, fun bI bo => dy bI fun b U => ?_⟩
   ·rintro b (h | h)
    ·exact ab b h
    ·exact af b (bN b h)
   ·rintro b U (h | h)
    ·exact aF b (b6 b U) h
    ·exact et b U h
   ·rcases U with (U | U) | U
    ·exact bo b (.inl U)
    ·exact bo b (.inr (.inl U))
    ·exact bo b (.inr (.inr U))
theorem a6.wider : ∀ {ds es : List I}, iP ds es → ∀ {F : Nat → Prop} {cs : List Value} {S : Nat → Prop}, a6 w F ds cs S →
  ∃ gL gM : Nat → Prop, (∀ b, gL b → S b) ∧ (∀ b, gM b → S b) ∧ (∀ b, gM b → ¬ gL b) ∧ ∀ bI, (∀ b, F b ∨ gL b → bI b) → a6 w bI es cs gM
 | _, _, .nil, F, cs, S, h => ⟨fun _ => False, fun _ => False, fun _ h => h.elim, fun _ h => h.elim, fun _ h => h.elim, fun bI bo => by rw [a6] at h ⊢; exact h⟩
 | _, _, .cons ah hV, F, cs, S, h => by
   rw [a6] at h
   obtain ⟨cr, cu, b1, dg, rfl, bs, b_, dq, ey, gT⟩ := h
   obtain ⟨LL, Em, ad, aT, a3, a4⟩ := ax.wider ah bs
   obtain ⟨Az, wF, kH, h8, lb, bY⟩ := a6.wider hV b_
   refine ⟨fun b => LL b ∨ Az b, fun b => Em b ∨ wF b, ?_, ?_, ?_, fun bI bo => ?_⟩
   ·rintro b (h | h)
    ·exact dq b (ad b h)
    ·exact ey b (kH b h)
   ·rintro b (h | h)
    ·exact dq b (aT b h)
    ·exact ey b (h8 b h)
   ·rintro b (h | h) (bq | bq)
    ·exact a3 b h bq
    ·exact gT b (aT b h) (kH b bq)
    ·exact gT b (ad b bq) (h8 b h)
    ·exact lb b h bq
   ·rw [a6]
    refine ⟨cr, cu, Em, wF, rfl, a4 bI (fun b U => bo b (U.imp id .inl)), bY bI (fun b U => bo b (U.imp id .inr)), fun b U => .inl U, fun b U => .inr U, fun b ab af => gT b (aT b ab) (h8 b af)⟩
end
theorem dX.wG : ∀ {d e : I}, dX d e → (∀ vs, d ≠ .tuple vs) → ∀ vs, e ≠ .tuple vs
 | _, _, .refl _, h => h
 | _, _, .mI _, _ => fun _ h => by cases h
 | _, _, .pT, _ => fun _ h => by cases h
 | _, _, .any _, _ => fun _ h => by cases h
 | _, _, .share d _ _, h => fun vs he => by cases d <;> first | (cases he; done) | exact h _ rfl
 | _, _, .agg _, _ => fun _ h => by cases h
 | _, _, .bd _, _ => fun _ h => by cases h
 | _, _, .aE _, _ => fun _ h => by cases h
 | _, _, .tuple _, h => fun _ _ => h _ rfl
 | _, _, .ref _, _ => fun _ h => by cases h
 | _, _, .trans h k, bl => dX.wG k (dX.wG h bl)
theorem dX.ha : ∀ {d e : I} {v : Value}, dX d e → (∀ vs, d ≠ .tuple vs) → cB.ha d v → cB.ha e v
 | _, _, _, .refl _, _, h => h
 | _, _, _, .mI _, _, h => h
 | _, _, _, .pT, _, h => h
 | _, _, _, .any _, _, h => h
 | _, _, _, .share d _ bl, _, h => by cases d <;> first | exact h | exact (bl _ rfl).elim
 | _, _, _, .agg _, _, h => h
 | _, _, _, .bd _, _, h => h
 | _, _, _, .aE _, _, h => h
 | _, _, _, .tuple _, bl, _ => (bl _ rfl).elim
 | _, _, _, .ref _, _, h => h
 | _, _, _, .trans h k, bl, aa => dX.ha k (dX.wG h bl) (dX.ha h bl aa)
theorem iP.get : ∀ {ds es : List I}, iP ds es → ∀ (k : Nat) (e : I), es[k]? = some e → ∃ d, ds[k]? = some d ∧ dX d e
 | _, _, .nil, k, e, h => by simp at h
 | _, _, .cons ah aa, 0, e, h => by simp at h; subst h; exact ⟨_, rfl, ah⟩
 | _, _, .cons ah aa, k + 1, e, h => iP.get aa k e (by simpa using h)
theorem dX.du : ∀ {d e : I} {v : Value}, dX d e → cB.du d v → cB.du e v
 | _, _, _, .refl _, aa => aa
 | _, _, _, .mI _, aa => aa
 | _, _, _, .pT, aa => aa
 | _, _, _, .any _, aa => aa
 | _, _, _, .share _ _ kL, aa => Ah kL aa
 | _, _, _, .agg _, aa => aa
 | _, _, _, .bd _, aa => aa
 | _, _, _, .aE _, aa => aa
 | _, _, _, .ref _, aa => aa
 | _, _, _, .tuple ah, aa => by
   obtain ⟨arr, ab, af, aF⟩ := aa
   refine ⟨arr, ab, af.trans ah.len.symm, fun k e x he au => ?_⟩
   obtain ⟨d, ay, hw⟩ := ah.get k e he
   obtain ⟨ad, aT, a3⟩ := aF k d x ay au
   exact ⟨hw.ha aT ad, hw.wG aT, a3.trans hw.wd.symm⟩
 | _, _, _, .trans h k, aa => dX.du k (dX.du h aa)
theorem dX.tree : ∀ {d e : I}, dX d e → d.tree = true → e.tree = true
 | _, _, .refl _, ah => ah
 | _, _, .mI _, _ => rfl
 | _, _, .pT, _ => rfl
 | _, _, .any _, _ => rfl
 | _, _, .share d _ _, ah => by cases d <;> first | exact ah | rfl
 | _, _, .agg _, _ => rfl
 | _, _, .bd _, _ => rfl
 | _, _, .aE _, _ => rfl
 | _, _, .tuple _, _ => rfl
 | _, _, .ref _, _ => rfl
 | _, _, .trans h k, ah => dX.tree k (dX.tree h ah)
mutual
def I.pU : I → List Nat
 | .h x q => if q.isEmpty then [] else [x]
 | .an x _ => [x]
 | .U x _ => [x]
 | .fn _ cap => I.tA cap
 | _ => []
def I.tA : List I → List Nat
 | [] => []
 | d :: ds => d.pU ++ I.tA ds
end
def tB (s ao : aj) (x : Nat) (D : List Nat) : Prop := ao x = s x ∨ ao x = .hole ∨ ((s x).own = true ∧ (ao x).own = true ∧ x ∉ D)
theorem tB.less {s ao : aj} {x : Nat} {D E : List Nat} (h : tB s ao x D) (LM : ∀ u ∈ E, u ∈ D) : tB s ao x E := by
 rcases h with h | h | ⟨ab, af, aF⟩
 ·exact .inl h
 ·exact .inr (.inl h)
 ·exact .inr (.inr ⟨ab, af, fun au => aF (LM x au)⟩)
theorem aH.keep {bI : Nat → Prop} (bo : ∀ b, F b → bI b) : ∀ n, (∀ (d : I) (v : Value) (dh : Nat → Prop), SizeOf.sizeOf d ≤ n → (∀ x ∈ d.aa, tB s ao x d.pU) → aH w F s az d v dh → aH w bI ao az d v dh) ∧
  (∀ (ds : List I) (vs : List Value), SizeOf.sizeOf ds ≤ n → (∀ x ∈ I.dc ds, tB s ao x (I.tA ds)) → dE w F s az ds vs → dE w bI ao az ds vs) := by
 intro n
 induction n with
 | zero =>
   refine ⟨fun d v dh bG => ?_, fun ds vs bG => ?_⟩
   ·cases d <;> simp at bG <;> omega
   ·cases ds <;> simp at bG <;> omega
 | succ n ih =>
   refine ⟨fun d v dh bG ay h => ?_, fun ds vs bG ay h => ?_⟩
   ·cases d with
    | hole => rw [aH]; trivial
    | h x q =>
      rw [aH] at h ⊢
      intro e ea an
      rcases ay x (by simp [I.aa]) with he | he | ⟨tC, En, rn⟩
      ·rw [he] at ea ⊢; exact h e ea an
      ·rw [he] at ea
       cases q with
       | nil => simp only [I.sub, Option.some.injEq] at ea; subst ea; simp [I.plain] at an
       | cons k q => simp [I.sub] at ea
      ·cases q with
       | nil =>
         simp only [I.sub, Option.some.injEq] at ea
         subst ea
         obtain ⟨cw, a0, fo, gi, gR⟩ := h (s x) (by simp only [I.sub]) (nO tC).1
         simp only [cU, Option.some.injEq, Prod.mk.injEq, true_and] at fo
         exact ⟨cm (az x), none, by simp only [cU], by rw [gi, ← fo.1], ((nO En).2.2.2.2.2 _).2 (((nO tC).2.2.2.2.2 _).1 gR)⟩
       | cons k q => exact (rn (by simp [I.pU])).elim
    | an x q =>
      rw [aH] at h ⊢
      intro e ea al
      rcases ay x (by simp [I.aa]) with he | he | ⟨_, _, rn⟩
      ·rw [he] at ea al ⊢; exact h e ea al
      ·rw [he] at al
       cases q <;> simp [I.ez] at al
      ·exact (rn (by simp [I.pU])).elim
    | U x k =>
      rw [aH] at h ⊢
      intro an
      rcases ay x (by simp [I.aa]) with he | he | ⟨_, _, rn⟩
      rotate_left 2
      ·exact (rn (by simp [I.pU])).elim
      ·rw [he] at an
       obtain ⟨b, cur, e, fr, ab, af, aF, bb⟩ := h an
       exact ⟨b, cur, e, fr, ab, bo b af, aF, bb⟩
      ·rw [he] at an; simp [I.plain] at an
    | fn f cap =>
      rw [aH] at h ⊢
      obtain ⟨arr, rfl, al⟩ := h
      exact ⟨arr, rfl, ih.2 _ _ (by simp at bG; omega) (by simpa [I.aa, I.pU] using ay) al⟩
    | _ =>
      have bq := (aH.cv rfl).1 h
      exact (aH.cv rfl).2 ⟨bq.1, ax.mono bo _ _ _ _ (fun _ h => h) bq.2⟩
   ·cases ds with
    | nil => rw [dE] at h ⊢; exact h
    | cons d ds =>
      rw [dE] at h ⊢
      obtain ⟨v, iW, rfl, ab, af⟩ := h
      simp at bG
      simp only [I.dc, List.mem_append] at ay
      exact ⟨v, iW, rfl, ih.1 _ _ _ (by omega) (fun x au => (ay x (.inl au)).less fun u hu => by simp [I.tA, hu]) ab, ih.2 _ _ (by omega) (fun x au => (ay x (.inr au)).less fun u hu => by simp [I.tA, hu]) af⟩
def rp (s : aj) (l : List (Nat × I)) : Prop :=
 ∀ p ∈ l, p.2 = s p.1 ∨ ((s p.1).tree = true ∧ dX (s p.1) p.2 ∧ ∀ b9 ∈ l, p.1 ∉ b9.2.aa ∨ ((s p.1).own = true ∧ p.2.own = true ∧ p.1 ∉ b9.2.pU))
theorem Eo : ∀ (l : List (Nat × I)) (t : Nat), R l t = .hole ∨ ∃ p ∈ l, p.1 = t ∧ R l t = p.2 := by
 intro l
 induction l with
 | nil => intro t; exact .inl rfl
 | cons p l ih =>
   intro t
   obtain ⟨u, d⟩ := p
   simp only [R]
   split
   ·rename_i e; exact .inr ⟨(u, d), by simp, e.symm, rfl⟩
   ·rcases ih t with h | ⟨p, an, h⟩
    ·exact .inl h
    ·exact .inr ⟨p, by simp [an], h⟩
theorem bE.Ep (h : bE w0 F0 X F S s az w) {l : List (Nat × I)} (hw : rp s l) : ∃ bI aL, bE w0 F0 X bI aL (R l) az w := by
 have each : ∀ t, ∃ gL gM : Nat → Prop, (∀ b, gL b → S t b) ∧ (∀ b, gM b → S t b) ∧ (∀ b, gM b → ¬ gL b) ∧ ∀ bI, (∀ b, F b ∨ gL b → bI b) → aH w bI (R l) az (R l t) (az t) gM := by
  intro t
  rcases Eo l t with e | ⟨p, an, rfl, e⟩
  ·exact ⟨fun _ => False, fun _ => False, fun _ h => h.elim, fun _ h => h.elim, fun _ h => h.elim, fun bI _ => by rw [e, aH]; trivial⟩
  ·rw [e]
   rcases hw p an with ay | ⟨aZ, kE, _⟩
   ·refine ⟨fun _ => False, S p.1, fun _ h => h.elim, fun _ h => h, fun _ _ h => h, fun bI bo => ?_⟩
    rw [ay]
    refine (aH.keep (fun b U => bo b (.inl U)) (SizeOf.sizeOf (s p.1))).1 _ _ _ (Nat.le_refl _) ?_ (h.da p.1)
    intro x au
    rcases Eo l x with ei | ⟨b9, dA, rfl, ei⟩
    ·exact .inr (.inl ei)
    ·rcases hw b9 dA with iO | ⟨_, _, lE⟩
     ·exact .inl (ei.trans iO)
     ·rcases lE p an with lE | ⟨lf, jk, mB⟩
      ·exact (lE (by rw [ay]; exact au)).elim
      ·exact .inr (.inr ⟨lf, by rw [ei]; exact jk, by rw [ay] at mB; exact mB⟩)
   ·obtain ⟨aY, bs⟩ := (aH.cv aZ).1 (h.da p.1)
    obtain ⟨gL, gM, bN, b6, et, dy⟩ := ax.wider kE bs
    exact ⟨gL, gM, bN, b6, et, fun bI bo => (aH.cv (kE.tree aZ)).2 ⟨kE.du aY, dy bI bo⟩⟩
 have cr := fun t => (each t).choose_spec
 let gL := fun t => (each t).choose
 have cu := fun t => (cr t).choose_spec
 let gM := fun t => (cr t).choose
 have ia : ∀ t b, gL t b → S t b := fun t => (cu t).1
 have bF : ∀ t b, gM t b → S t b := fun t => (cu t).2.1
 have dJ : ∀ t b, gM t b → ¬ gL t b := fun t => (cu t).2.2.1
 have cz := fun t => (cu t).2.2.2
 refine ⟨fun b => F b ∨ ∃ t, gL t b, gM, fun b U => .inl (h.gk b U), ?_, ?_, fun t b U => h.dM t b (bF t b U), ?_, fun t u b cV U hu => h.eU t u b cV (bF t b U) (bF u b hu), fun t b U => h.dh t b (bF t b U), ?_, h.old, h.size, h.os, h.tape, h.output⟩
 ·rintro b (U | ⟨t, U⟩)
  ·exact h.gC b U
  ·exact .inr (h.dh t b (ia t b U))
 ·rintro b (U | ⟨t, U⟩)
  ·exact h.eT b U
  ·exact h.dM t b (ia t b U)
 ·rintro t b U (bB | ⟨u, hu⟩)
  ·exact h.ff t b (bF t b U) bB
  ·by_cases e : t = u
   ·subst e; exact dJ t b U hu
   ·exact h.eU t u b e (bF t b U) (ia u b hu)
 ·intro t
  exact cz t _ (fun b U => U.imp id fun h => ⟨t, h⟩)
end
inductive J where
 | skip
 | ae (ros : List cg) (keep : Option (List Nat))
 | hK (ros : List cg) (mH : List (List Nat)) (keep : Option (List Nat))
 | seq (a b : J)
 | cond (c : aA) (a b : J)
 | block (id : Nat) (b : J)
 | loop (b : J)
 | exit (id : Nat)
 | ret
 | hy (T : (Exit → aj → Prop) → aj → Prop) (b : J)
def bQ (n : Fr) : Code → Option J
 | .skip => some .skip
 | .region _ ops false => (ni n ops ops.toList).map fun r => .ae r none
 | .region _ ops true => if tx (lV ops) = true then (ni n ops ops.toList).map fun r => .hK r (lV ops) none else none
 | .seq a b => match bQ n a, bQ n b with
   | some a, some b => some (.seq a b)
   | _, _ => none
 | .cond c a b => match db c, bQ n a, bQ n b with
   | some c, some a, some b => some (.cond c a b)
   | _, _, _ => none
 | .block id b => (bQ n b).map (.block id)
 | .loop b => (bQ n b).map .loop
 | .exit id => some (.exit id)
 | .ret => some .ret
 | _ => none
def J.i3 : J → J
 | .ae ros _ => .ae ros none
 | .hK ros fT _ => .hK ros fT none
 | .seq a b => .seq a.i3 b.i3
 | .cond c a b => .cond c a.i3 b.i3
 | .block id b => .block id b.i3
 | .loop b => .loop b.i3
 | .hy T b => .hy T b.i3
 | c => c
def J.strip : J → J
 | .ae ros _ => .ae (ros.map cg.un) none
 | .hK ros fT _ => .hK (ros.map cg.un) fT none
 | .seq a b => .seq a.strip b.strip
 | .cond c a b => .cond c a.strip b.strip
 | .block id b => .block id b.strip
 | .loop b => .loop b.strip
 | .hy _ b => b.strip
 | c => c
theorem J.AA : ∀ c : J, c.i3.strip = c.strip := by
 intro c
 induction c with
 | seq a b iu iv => simp only [J.i3, J.strip, iu, iv]
 | cond c a b iu iv => simp only [J.i3, J.strip, iu, iv]
 | block id b ih => simp only [J.i3, J.strip, ih]
 | loop b ih => simp only [J.i3, J.strip, ih]
 | hy T b ih => simp only [J.i3, J.strip, ih]
 | _ => rfl
def J.bare (H : ((Exit → aj → Prop) → aj → Prop) → J → Prop) : J → Prop
 | .ae _ k => k = none
 | .hK _ _ k => k = none
 | .seq a b => a.bare H ∧ b.bare H
 | .cond _ a b => a.bare H ∧ b.bare H
 | .block _ b => b.bare H
 | .loop b => b.bare H
 | .hy T b => H T b
 | _ => True
def J.kN (H : ((Exit → aj → Prop) → aj → Prop) → J → Prop) : J → Prop
 | .seq a b => a.kN H ∧ b.kN H
 | .cond _ a b => a.kN H ∧ b.kN H
 | .block _ b => b.kN H
 | .loop b => b.kN H
 | .hy T b => H T b.i3
 | _ => True
theorem J.wH {H : ((Exit → aj → Prop) → aj → Prop) → J → Prop} : ∀ c : J, c.kN H → c.i3.bare H := by
 intro c
 induction c with
 | seq a b iu iv => intro h; exact ⟨iu h.1, iv h.2⟩
 | cond c a b iu iv => intro h; exact ⟨iu h.1, iv h.2⟩
 | block id b ih => intro h; exact ih h
 | loop b ih => intro h; exact ih h
 | ae => intro _; rfl
 | hK => intro _; rfl
 | hy T b _ => intro h; exact h
 | _ => intro _; trivial
def J.plain : J → Bool
 | .seq a b => a.plain && b.plain
 | .cond _ a b => a.plain && b.plain
 | .block _ b => b.plain
 | .loop b => b.plain
 | .hy _ _ => false
 | _ => true
theorem J.Er {H : ((Exit → aj → Prop) → aj → Prop) → J → Prop} : ∀ c : J, c.plain = true → c.kN H := by
 intro c
 induction c with
 | seq a b iu iv => intro h; simp only [J.plain, Bool.and_eq_true] at h; exact ⟨iu h.1, iv h.2⟩
 | cond c a b iu iv => intro h; simp only [J.plain, Bool.and_eq_true] at h; exact ⟨iu h.1, iv h.2⟩
 | block id b ih => intro h; exact ih h
 | loop b ih => intro h; exact ih h
 | hy T b _ => intro h; cases h
 | _ => intro _; trivial
def andThen (K : aj → Prop) (Q : Exit → aj → Prop) : Exit → aj → Prop
 | .normal, s => K s
 | e, s => Q e s
def rq (id : Nat) (Q : Exit → aj → Prop) : Exit → aj → Prop
 | .exit i, s => if i = id then Q .normal s else Q (.exit i) s
 | e, s => Q e s
def dv (K : aj → Prop) (s : aj) : Prop := K s ∨ ∃ l, rp s l ∧ K (R l)
def tD : Option (List Nat) → (aj → Prop) → aj → Prop
 | none, K, s => dv K s
 | some k, K, s => K (R (k.map fun t => (t, s t)))
def cG (C : bZ) : J → (Exit → aj → Prop) → aj → Prop
 | .skip, Q, s => Q .normal s
 | .ae ros keep, Q, s => jI C s ros (tD keep (Q .normal))
 | .hK ros mH keep, Q, s => ∀ l, Aw mH l → iq C ros s l (tD keep (Q .normal))
 | .seq a b, Q, s => cG C a (andThen (dv (cG C b Q)) Q) s
 | .cond c a b, Q, s => match aG s c with
   | .bool eO => if eO = true then cG C a Q s else cG C b Q s
   | .dV => cG C a Q s ∧ cG C b Q s
   | _ => False
 | .block id b, Q, s => cG C b (rq id Q) s
 | .loop b, Q, s => dv (fun s => ∀ Z : aj → Prop, (∀ ao, cG C b (andThen (dv Z) Q) ao → Z ao) → Z s) s
 | .exit id, Q, s => Q (.exit id) s
 | .ret, Q, s => Q .ret s
 | .hy T _, Q, s => ∀ fu : Exit → aj → Prop, (∀ e s, Q e s → fu e s) → T fu s
section
variable {C : bZ}
theorem AB {s : aj} {o : cg} {K cW : aj → Prop} (h : j3 C s o K) (ay : ∀ s, K s → cW s) : j3 C s o cW := by
 unfold j3 at h ⊢
 split
 ·rename_i bO; rw [bO] at h; exact wB h fun av s1 => ay _
 ·rename_i t b bO
  rw [bO] at h
  simp only at h
  split
  ·rename_i eO aa
   rw [aa] at h
   simp only at h
   split
   ·rename_i U; rw [if_pos U] at h; exact wB h fun av s1 => ay _
   ·rename_i U; rw [if_neg U] at h; exact ay _ h
  ·rename_i aa; rw [aa] at h; exact ay _ h
  ·rename_i ab af
   split at h
   ·exact ab _ (by assumption)
   ·exact af (by assumption)
   ·exact h
theorem Es {K cW : aj → Prop} (ay : ∀ s, K s → cW s) : ∀ {ros : List cg} {s : aj}, jI C s ros K → jI C s ros cW := by
 intro ros
 induction ros with
 | nil => intro s h; exact ay s h
 | cons o ros ih => intro s h; exact AB h fun s h => ih h
theorem Et {ros : List cg} {K cW : aj → Prop} (ay : ∀ s, K s → cW s) : ∀ {l : List Nat} {s : aj}, iq C ros s l K → iq C ros s l cW := by
 intro l
 induction l with
 | nil => intro s h; exact ay s h
 | cons i l ih =>
   intro s h
   simp only [iq] at h ⊢
   split
   ·rename_i bU; rw [bU] at h; exact ih h
   ·rename_i o bU; rw [bU] at h; exact AB h fun s h => ih h
theorem rr {K cW : aj → Prop} (ay : ∀ s, K s → cW s) (s : aj) (h : dv K s) : dv cW s :=
 h.imp (ay s) fun ⟨l, ab, af⟩ => ⟨l, ab, ay _ af⟩
theorem Eu {keep : Option (List Nat)} {K cW : aj → Prop} (ay : ∀ s, K s → cW s) (s : aj) (h : tD keep K s) : tD keep cW s := by
 cases keep with
 | none => exact rr ay s h
 | some k => exact ay _ h
theorem Ev {keep : Option (List Nat)} {K : aj → Prop} {s : aj} (h : tD keep K s) : dv K s := by
 cases keep with
 | none => exact h
 | some k =>
   refine .inr ⟨_, ?_, h⟩
   intro p an
   obtain ⟨t, _, rfl⟩ := List.mem_map.1 an
   exact .inl rfl
theorem AD {K cW : aj → Prop} {Q fu : Exit → aj → Prop} (ay : ∀ s, K s → cW s) (cC : ∀ e s, Q e s → fu e s) : ∀ e s, andThen K Q e s → andThen cW fu e s := by
 intro e s h
 cases e with
 | normal => exact ay s h
 | _ => exact cC _ s h
theorem AE : ∀ (c : J) {Q fu : Exit → aj → Prop} {s : aj}, (∀ e s, Q e s → fu e s) → cG C c Q s → cG C c fu s := by
 intro c
 induction c with
 | skip => intro Q fu s cC h; exact cC _ _ h
 | ae ros keep => intro Q fu s cC h; exact Es (Eu (cC _)) h
 | hK ros mH keep => intro Q fu s cC h l hl; exact Et (Eu (cC _)) (h l hl)
 | seq a b iu iv =>
   intro Q fu s cC h
   exact iu (AD (fun s h => rr (fun _ h => iv cC h) s h) cC) h
 | cond c a b iu iv =>
   intro Q fu s cC h
   simp only [cG] at h ⊢
   split
   ·rename_i eO U
    rw [U] at h
    simp only at h
    split
    ·rename_i e; rw [if_pos e] at h; exact iu cC h
    ·rename_i e; rw [if_neg e] at h; exact iv cC h
   ·rename_i U; rw [U] at h; exact ⟨iu cC h.1, iv cC h.2⟩
   ·rename_i ab af
    split at h
    ·exact ab _ (by assumption)
    ·exact af (by assumption)
    ·exact h
 | block id b ih =>
   intro Q fu s cC h
   refine ih ?_ h
   intro e s h
   cases e with
   | exit i =>
     simp only [rq] at h ⊢
     split
     ·rename_i e; rw [if_pos e] at h; exact cC _ _ h
     ·rename_i e; rw [if_neg e] at h; exact cC _ _ h
   | _ => exact cC _ _ h
 | loop b ih =>
   intro Q fu s cC h
   refine rr (fun s h Z ru => ?_) s h
   exact h Z fun ao ef => ru ao (ih (AD (fun _ h => h) cC) ef)
 | exit id => intro Q fu s cC h; exact cC _ _ h
 | ret => intro Q fu s cC h; exact cC _ _ h
 | hy T b _ => intro Q fu s cC h e5 af; exact h e5 fun e s he => af e s (cC e s he)
theorem wI : ∀ (c : J) {Q : Exit → aj → Prop} {s : aj}, cG C c Q s → cG C c.i3 Q s := by
 intro c
 induction c with
 | ae ros keep => intro Q s h; exact Es (fun s h => Ev h) h
 | hK ros fT keep => intro Q s h l hl; exact Et (fun s h => Ev h) (h l hl)
 | seq a b iu iv => intro Q s h; exact iu (AE a (AD (fun s h => rr (fun _ h => iv h) s h) (fun _ _ h => h)) h)
 | cond c a b iu iv =>
   intro Q s h
   simp only [J.i3, cG] at h ⊢
   split
   ·rename_i eO U
    rw [U] at h
    simp only at h
    split
    ·rename_i e; rw [if_pos e] at h; exact iu h
    ·rename_i e; rw [if_neg e] at h; exact iv h
   ·rename_i U; rw [U] at h; exact ⟨iu h.1, iv h.2⟩
   ·rename_i ab af
    split at h
    ·exact ab _ (by assumption)
    ·exact af (by assumption)
    ·exact h
 | block id b ih => intro Q s h; exact ih h
 | loop b ih =>
   intro Q s h
   refine rr (fun s h Z ru => ?_) s h
   exact h Z fun ao ef => ru ao (ih ef)
 | hy T b _ => intro Q s h; exact h
 | _ => intro Q s h; exact h
variable {w0 w : World} {F0 X : Nat → Prop} {n : Fr} {ρ : Nat → Value} {s : aj} {a : Act}
def pV (w0 : World) (F0 X : Nat → Prop) (n : Fr) (ρ : Nat → Value) (Q : Exit → aj → Prop) : Exit → Act → World → Prop := fun e a w => ∃ s, Q e s ∧ Rel w0 F0 X n ρ s a w
theorem Rel.dv {K : aj → Prop} {s : aj} {a : Act} {w : World} (aO : Rel w0 F0 X n ρ s a w) (h : dv K s) : ∃ ao, K ao ∧ Rel w0 F0 X n ρ ao a w := by
 rcases h with h | ⟨l, ab, af⟩
 ·exact ⟨s, h, aO⟩
 ·obtain ⟨aY, bs, b_, F, S, dq⟩ := aO
  obtain ⟨bI, aL, ey⟩ := dq.Ep ab
  exact ⟨R l, af, aY, bs, b_, bI, aL, ey⟩
theorem J.LN {c : J} (h : c.strip = .skip) : c = .skip ∨ ∃ T b, c = .hy T b := by cases c <;> first | exact .inl rfl | exact .inr ⟨_, _, rfl⟩ | cases h
theorem J.LO {c : J} (h : c.strip = .ret) : c = .ret ∨ ∃ T b, c = .hy T b := by cases c <;> first | exact .inl rfl | exact .inr ⟨_, _, rfl⟩ | cases h
theorem J.LP {c : J} {i : Nat} (h : c.strip = .exit i) : c = .exit i ∨ ∃ T b, c = .hy T b := by cases c <;> first | exact .inl h | exact .inr ⟨_, _, rfl⟩ | cases h
theorem J.LQ {c : J} {r : List cg} {k : Option (List Nat)} (h : c.strip = .ae r k) : (∃ ros cE, c = .ae ros cE ∧ ros.map cg.un = r) ∨ ∃ T b, c = .hy T b := by
 cases c <;> first | (cases h; exact .inl ⟨_, _, rfl, rfl⟩) | exact .inr ⟨_, _, rfl⟩ | cases h
theorem J.LR {c : J} {r : List cg} {fT : List (List Nat)} {k : Option (List Nat)} (h : c.strip = .hK r fT k) : (∃ ros Ew cE, c = .hK ros Ew cE ∧ ros.map cg.un = r ∧ Ew = fT) ∨ ∃ T b, c = .hy T b := by
 cases c <;> first | (cases h; exact .inl ⟨_, _, _, rfl, rfl, rfl⟩) | exact .inr ⟨_, _, rfl⟩ | cases h
theorem J.LS {c x y : J} (h : c.strip = .seq x y) : (∃ a b, c = .seq a b ∧ a.strip = x ∧ b.strip = y) ∨ ∃ T b, c = .hy T b := by
 cases c <;> first | (cases h; exact .inl ⟨_, _, rfl, rfl, rfl⟩) | exact .inr ⟨_, _, rfl⟩ | cases h
theorem J.LU {c x y : J} {o : aA} (h : c.strip = .cond o x y) : (∃ ld a b, c = .cond ld a b ∧ ld = o ∧ a.strip = x ∧ b.strip = y) ∨ ∃ T b, c = .hy T b := by
 cases c <;> first | (cases h; exact .inl ⟨_, _, _, rfl, rfl, rfl, rfl⟩) | exact .inr ⟨_, _, rfl⟩ | cases h
theorem J.LV {c x : J} {i : Nat} (h : c.strip = .block i x) : (∃ a, c = .block i a ∧ a.strip = x) ∨ ∃ T b, c = .hy T b := by
 cases c <;> first | (cases h; exact .inl ⟨_, rfl, rfl⟩) | exact .inr ⟨_, _, rfl⟩ | cases h
theorem J.LW {c x : J} (h : c.strip = .loop x) : (∃ a, c = .loop a ∧ a.strip = x) ∨ ∃ T b, c = .hy T b := by
 cases c <;> first | (cases h; exact .inl ⟨_, rfl, rfl⟩) | exact .inr ⟨_, _, rfl⟩ | cases h
theorem AF (bp : C.Ok) {H : ((Exit → aj → Prop) → aj → Prop) → J → Prop}
  (iw : ∀ (c : Code) (T : (Exit → aj → Prop) → aj → Prop) (b : J) (Q : Exit → aj → Prop) (s : aj) (a : Act) (w : World), H T b → bQ n c = some b.strip → T Q s → Rel w0 F0 X n ρ s a w → c.wp C.P (pV w0 F0 X n ρ Q) a w) :
  ∀ (c : Code) {c2 : J} {Q : Exit → aj → Prop} {s : aj} {a : Act} {w : World}, bQ n c = some c2.strip → c2.bare H → cG C c2 Q s → Rel w0 F0 X n ρ s a w → c.wp C.P (pV w0 F0 X n ρ Q) a w := by
 intro c
 induction c with
 | skip =>
   intro c2 Q s a w aa gD h aO
   have jm := aa
   simp only [bQ, Option.some.injEq] at aa
   rcases J.LN aa.symm with rfl | ⟨T, b, rfl⟩
   ·exact wp_skip ⟨s, h, aO⟩
   ·exact iw _ T b Q s a w gD (by simpa only [J.strip] using jm) (h Q fun _ _ h => h) aO
 | region id ops draw =>
   intro c2 Q s a w aa gD h aO
   have jm := aa
   cases draw with
   | false =>
     simp only [bQ, Option.map_eq_some_iff] at aa
     obtain ⟨LX, tE, aa⟩ := aa
     rcases J.LQ aa.symm with ⟨ros, k, rfl, rfl⟩ | ⟨T, b, rfl⟩
     rotate_left
     ·exact iw _ T b Q s a w gD (by simpa only [J.strip] using jm) (h Q fun _ _ h => h) aO
     cases gD
     exact Lz bp tE (fun ao cl aD ay dR => dR.dv ay) h aO
   | true =>
     simp only [bQ] at aa
     split at aa
     ·rename_i U
      simp only [Option.map_eq_some_iff] at aa
      obtain ⟨LX, tE, aa⟩ := aa
      rcases J.LR aa.symm with ⟨ros, fT, k, rfl, rfl, rfl⟩ | ⟨T, b, rfl⟩
      rotate_left
      ·exact iw _ T b Q s a w gD (by simpa only [J.strip] using jm) (h Q fun _ _ h => h) aO
      cases gD
      refine wp_region_draw fun t => ?_
      rw [show Region.schedule (C.P.follows .mixedOrders) ops t = Region.linearise .any ops t by simp [Region.schedule, bp.mixed]]
      exact Ef bp tE (fun ao cl aD ay dR => dR.dv ay) _ s a _ (h _ (LJ U t)) (aO.drawn _)
     ·cases aa
 | seq x y LY wJ =>
   intro c2 Q s a w aa gD h aO
   have jm := aa
   simp only [bQ] at aa
   split at aa
   ·rename_i rf Ex au bC
    simp only [Option.some.injEq] at aa
    rcases J.LS aa.symm with ⟨cx, iH, rfl, rfl, rfl⟩ | ⟨T, b, rfl⟩
    rotate_left
    ·exact iw _ T b Q s a w gD (by simpa only [J.strip] using jm) (h Q fun _ _ h => h) aO
    refine wp_seq (wp_mono (LY au gD.1 h aO) ?_)
    rintro e cl aD ⟨ao, bq, dR⟩
    cases e with
    | normal =>
      obtain ⟨ao, bq, dR⟩ := dR.dv bq
      exact wJ bC gD.2 bq dR
    | _ => exact ⟨ao, bq, dR⟩
   ·cases aa
 | cond x y z wJ Ey =>
   intro c2 Q s a w aa gD h aO
   have jm := aa
   simp only [bQ] at aa
   split at aa
   ·rename_i rf Ex sz au bC bG
    simp only [Option.some.injEq] at aa
    rcases J.LU aa.symm with ⟨cx, iH, ou, rfl, rfl, rfl, rfl⟩ | ⟨T, b, rfl⟩
    rotate_left
    ·exact iw _ T b Q s a w gD (by simpa only [J.strip] using jm) (h Q fun _ _ h => h) aO
    have dR := aO
    obtain ⟨ah, dB, bB, F, S, mG⟩ := dR
    have aK := (fg (a := a) mG (fun _ => rfl) au).2
    simp only [cG] at h
    split at h
    ·rename_i eO U
     rw [U] at aK
     have := pz aK
     refine wp_cond this ?_
     split
     ·rename_i e; rw [if_pos e] at h; exact wJ bC gD.1 h aO
     ·rename_i e; rw [if_neg e] at h; exact Ey bG gD.2 h aO
    ·rename_i U
     rw [U] at aK
     obtain ⟨eO, kh⟩ := Df aK
     refine wp_cond kh ?_
     split
     ·exact wJ bC gD.1 h.1 aO
     ·exact Ey bG gD.2 h.2 aO
    ·exact h.elim
   ·cases aa
 | block id b ih =>
   intro c2 Q s a w aa gD h aO
   have jm := aa
   simp only [bQ, Option.map_eq_some_iff] at aa
   obtain ⟨s8, U, aa⟩ := aa
   rcases J.LV aa.symm with ⟨eO, rfl, rfl⟩ | ⟨T, b, rfl⟩
   rotate_left
   ·exact iw _ T b Q s a w gD (by simpa only [J.strip] using jm) (h Q fun _ _ h => h) aO
   refine wp_block (wp_mono (ih U gD h aO) ?_)
   rintro e cl aD ⟨ao, bq, dR⟩
   cases e with
   | exit i =>
     simp only [rq] at bq
     simp only [Exit.inBlock]
     split
     ·rename_i e; rw [if_pos e] at bq; exact ⟨ao, bq, dR⟩
     ·rename_i e; rw [if_neg e] at bq; exact ⟨ao, bq, dR⟩
   | _ => exact ⟨ao, bq, dR⟩
 | loop b ih =>
   intro c2 Q s a w aa gD h aO
   have jm := aa
   simp only [bQ, Option.map_eq_some_iff] at aa
   obtain ⟨s8, U, aa⟩ := aa
   rcases J.LW aa.symm with ⟨eO, rfl, rfl⟩ | ⟨T, b, rfl⟩
   rotate_left
   ·exact iw _ T b Q s a w gD (by simpa only [J.strip] using jm) (h Q fun _ _ h => h) aO
   obtain ⟨s, h, aO⟩ := aO.dv h
   have key := h (fun s => ∀ a w, Rel w0 F0 X n ρ s a w → ∀ (f : Frame) (k : List Item) (cs : List Frame), ∃ e cl aD, pV w0 F0 X n ρ Q e cl aD ∧ Arrives C.P (lone (f.at a (.code b :: .inLoop b :: k)) cs w) f k cs e cl aD) ?_
   ·intro f k cs
    obtain ⟨e, cl, aD, cC, oE⟩ := key a w aO f k cs
    exact ⟨e, cl, aD, cC, .of_steps (.one step_loop) oE⟩
   ·intro ao ef a w aO f k cs
    obtain ⟨e, a₁, w₁, ⟨s1, cC, oF⟩, oE⟩ := ih U gD ef aO f (.inLoop b :: k) cs
    cases e with
    | normal =>
      simp only [andThen] at cC
      obtain ⟨s1, cC, oF⟩ := oF.dv cC
      obtain ⟨e₂, a₂, w₂, hq₂, harr₂⟩ := cC a₁ w₁ oF f k cs
      exact ⟨e₂, a₂, w₂, hq₂, .of_steps (Steps.trans oE (.one step_inLoop)) harr₂⟩
    | exit id => exact ⟨_, a₁, w₁, ⟨s1, cC, oF⟩, .pass (x := .inLoop b) rfl (fun _ _ => .inl (by simp)) oE⟩
    | goto l => exact ⟨_, a₁, w₁, ⟨s1, cC, oF⟩, .pass (x := .inLoop b) rfl (fun _ _ => .inl (by simp)) oE⟩
    | ret => exact ⟨_, a₁, w₁, ⟨s1, cC, oF⟩, .pass (x := .inLoop b) rfl (fun _ _ => .inl (by simp)) oE⟩
    | panic aha => exact ⟨_, a₁, w₁, ⟨s1, cC, oF⟩, .pass (x := .inLoop b) rfl (fun _ _ => .inl (by simp)) oE⟩
    | outgrown => exact ⟨_, a₁, w₁, ⟨s1, cC, oF⟩, .pass (x := .inLoop b) rfl (fun _ _ => .inl (by simp)) oE⟩
 | exit id =>
   intro c2 Q s a w aa gD h aO
   have jm := aa
   simp only [bQ, Option.some.injEq] at aa
   rcases J.LP aa.symm with rfl | ⟨T, b, rfl⟩
   ·exact wp_exit ⟨s, h, aO⟩
   ·exact iw _ T b Q s a w gD (by simpa only [J.strip] using jm) (h Q fun _ _ h => h) aO
 | ret =>
   intro c2 Q s a w aa gD h aO
   have jm := aa
   simp only [bQ, Option.some.injEq] at aa
   rcases J.LO aa.symm with rfl | ⟨T, b, rfl⟩
   ·exact wp_ret ⟨s, h, aO⟩
   ·exact iw _ T b Q s a w gD (by simpa only [J.strip] using jm) (h Q fun _ _ h => h) aO
 | _ => intro c2 Q s a w aa; simp [bQ] at aa
theorem Ez (bp : C.Ok) (c : Code) {c2 : J} {Q : Exit → aj → Prop} {s : aj} {a : Act} {w : World} (aa : bQ n c = some c2.strip) (U : c2.bare (fun _ _ => False)) (h : cG C c2 Q s) (aO : Rel w0 F0 X n ρ s a w) : c.wp C.P (pV w0 F0 X n ρ Q) a w :=
 AF bp (fun _ _ _ _ _ _ _ bB => bB.elim) c aa U h aO
end
def ix : ResultVar → Nat
 | .tmp t => t
 | .cell a _ => a
def oG (C : bZ) (s : aj) : ResultVar → Option I
 | .tmp t => if (s t).tree = true then (match s t with | .tuple _ => none | d => some d) else none
 | .cell a T => match s a with
   | .bd d => if fits C T d = true ∧ d.tree = true then some d else none
   | _ => none
def Ends (C : bZ) (fx : List Nat) (fL : List ResultVar) (r : I) (outs : List I) (s : aj) : Prop :=
 ∃ ds, fL.map (oG C s) = ds.map some ∧ r = (match ds with | [d] => d | ds => .tuple ds) ∧ (fL.map ix).Nodup ∧
   ∀ (i : Nat) (o : I), outs[i]? = some o → o = .hole ∨ (o = s i ∧ o.fq = true ∧ i ∈ fx ∧ i ∉ fL.map ix)
section
variable {C : bZ} {w0 w : World} {F0 X F : Nat → Prop} {S : Nat → Nat → Prop} {s : aj} {tmps : Array Value}
theorem EA {d : I} {x : Value} (ah : ∀ vs, d ≠ .tuple vs) (h : du d x) : cm x = gJ x ∧ ha d x := by
 have : ha d x := by cases d <;> first | exact h | exact (ah _ rfl).elim
 refine ⟨?_, this⟩
 cases d <;> first
  | (obtain ⟨a, rfl⟩ := this; rfl)
  | (simp only [ha] at this
     rw [hq this]
     cases x <;> first | rfl | (simp [Value.fN] at this))
def tF (tmps : Array Value) : ResultVar → Sem Value
 | .tmp t => pure (tmps.getD t undef)
 | .cell a t => do loadVar t (← asAddr (tmps.getD a undef))
theorem LZ (bp : C.Ok) (h : bE w0 F0 X F S s (fun t => tmps.getD t undef) w) {v : ResultVar} {d : I} (aK : oG C s v = some d) :
  ∃ x, (tF tmps v).run C.P w = .ok x w ∧ d.tree = true ∧ (∀ vs, d ≠ .tuple vs) ∧ du d x ∧ ax w F d (cm x) (S (ix v)) := by
 cases v with
 | tmp t =>
   simp only [oG] at aK
   split at aK
   ·rename_i aZ
    have kL : (∀ vs, s t ≠ .tuple vs) ∧ d = s t := by
     cases aa : s t <;> rw [aa] at aK <;> simp only at aK <;> first
      | (cases aK; done)
      | (simp only [Option.some.injEq] at aK; exact ⟨(fun _ h => by cases h), aK.symm⟩)
    obtain ⟨kL, rfl⟩ := kL
    obtain ⟨aY, bs⟩ := (aH.cv aZ).1 (h.da t)
    exact ⟨_, by simp [tF], aZ, kL, aY, bs⟩
   ·cases aK
 | cell a T =>
   simp only [oG] at aK
   split at aK
   ·rename_i e aa
    split at aK
    ·rename_i L0
     obtain ⟨iJ, L1⟩ := L0
     simp only [Option.some.injEq] at aK; subst aK
     have hJ := h.da a
     rw [aa] at hJ
     obtain ⟨aY, bs⟩ := (aH.cv (d := .bd e) rfl).1 hJ
     rw [hq aY, ax] at bs
     obtain ⟨b, cur, ty, fr, aL, bN, b6, et, dy, fk, ej, iN⟩ := bs
     simp only [List.cons.injEq, and_true] at bN
     have il : Rd w b 0 cur.toList := by
      have := qX et cur.size
      rwa [List.take_of_length_le (by simp)] at this
     obtain ⟨x, dx, eb, hH⟩ := vY (C := C) bp il fk iJ
     refine ⟨x, ?_, L1, ?_, hH, ?_⟩
     ·simp only [tF]
      rw [bN]
      simpa [asAddr] using dx
     ·intro vs ei; subst ei
      unfold fits at iJ
      split at iJ <;> simp_all
     ·rw [eb]; exact ax.mono (fun _ h => h) _ _ _ _ ej fk
    ·cases aK
   ·cases aK
theorem L2 (bp : C.Ok) (h : bE w0 F0 X F S s (fun t => tmps.getD t undef) w) : ∀ (fL : List ResultVar) (ds : List I), fL.map (oG C s) = ds.map some → (fL.map ix).Nodup →
  ∃ xs, (fL.mapM (tF tmps)).run C.P w = .ok xs w ∧ xs.length = ds.length ∧ a6 w F ds (xs.flatMap gJ) (fun b => ∃ t ∈ fL.map ix, S t b) ∧
    ∀ (k : Nat) (d : I) (x : Value), ds[k]? = some d → xs[k]? = some x → du d x ∧ (∀ vs, d ≠ .tuple vs) ∧ (gJ x).length = d.wd ∧ cm x = gJ x ∧ d.tree = true := by
 intro fL
 induction fL with
 | nil =>
   intro ds he _
   have : ds = [] := by simpa using he.symm
   subst this
   exact ⟨[], by simp, rfl, by simp only [List.flatMap_nil]; rw [a6], fun k d x ah => by simp at ah⟩
 | cons v fL ih =>
   intro ds he rv
   cases ds with
   | nil => simp at he
   | cons d ds =>
     simp only [List.map_cons, List.cons.injEq] at he
     simp only [List.map_cons, List.nodup_cons] at rv
     obtain ⟨x, dx, rt, eb, hH, jW⟩ := LZ bp h he.1
     obtain ⟨xs, ia, bF, dJ, cz⟩ := ih ds he.2 rv.2
     obtain ⟨aJ, aP⟩ := EA eb hH
     refine ⟨x :: xs, by simp [List.mapM_cons, dx, ia], by simp [bF], ?_, ?_⟩
     ·simp only [List.flatMap_cons]
      rw [a6]
      rw [aJ] at jW
      refine ⟨gJ x, xs.flatMap gJ, S (ix v), fun b => ∃ t ∈ fL.map ix, S t b, rfl, jW, dJ, fun b U => ⟨ix v, by simp, U⟩, ?_, ?_⟩
      ·rintro b ⟨t, aZ, U⟩; exact ⟨t, by simp [aZ], U⟩
      ·rintro b U ⟨t, aZ, kh⟩
       have : t ≠ ix v := fun e => rv.1 (e ▸ aZ)
       exact h.eU t (ix v) b this kh U
     ·intro k br cx ah au
      cases k with
      | zero =>
        simp at ah au; subst ah au
        refine ⟨hH, eb, ?_, aJ, rt⟩
        rw [← aJ]; exact ax.length _ _ _ jW
      | succ k => exact cz k br cx (by simpa using ah) (by simpa using au)
theorem AG (bp : C.Ok) {f : FuncId} {fn : Func} {c : Code} {fx : List Nat} {as outs : List I} {r : I} (bB : C.P.funcs[f]? = some fn) (U : fn.body = some c)
  (jJ : (fn.name == "runtime.NumGoroutine") = false) (bl : as.length ≤ fn.ntmps)
  {w : World} {F X : Nat → Prop} {S : Nat → Nat → Prop} {vs : List Value} (hl : vs.length = as.length) (aO : bE w F X F S (e3 as) (gv vs) w)
  (L3 : ∀ a, Rel w F X ⟨fn.ntmps, fx⟩ (gv vs) (e3 as) a w → (∀ t, a.tmps.getD t undef = gv vs t) → c.wp C.P (pV w F X ⟨fn.ntmps, fx⟩ (gv vs) (fun e s => (e = .normal ∨ e = .ret) ∧ dv (Ends C fx fn.results.toList r outs) s)) a w) :
  lT C.P f vs.toArray w fun v aD => ∃ bI aL, bE w F X bI aL (e3 (r :: outs)) (gv (v :: vs)) aD := by
 have kK : (vs.toArray ++ Array.replicate (fn.ntmps - vs.toArray.size) undef).size = fn.ntmps := by simp; omega
 have dC : (fun t => (vs.toArray ++ Array.replicate (fn.ntmps - vs.toArray.size) undef).getD t undef) = gv vs := by
  funext t
  simp only [gv, Array.getD_eq_getD_getElem?, List.getD_eq_getElem?_getD]
  by_cases aZ : t < vs.length
  ·rw [Array.getElem?_append_left (by simpa using aZ)]; simp
  ·rw [Array.getElem?_append_right (by simpa using aZ)]
   rw [List.getElem?_eq_none (by omega)]
   simp only [Array.getElem?_replicate]
   split <;> rfl
 have mG : Rel w F X ⟨fn.ntmps, fx⟩ (gv vs) (e3 as) { tmps := vs.toArray ++ Array.replicate (fn.ntmps - vs.toArray.size) undef, defers := [] } w :=
  ⟨rfl, kK, fun i _ => congrFun dC i, F, S, by rw [dC]; exact aO⟩
 have AH : fn.name ≠ "runtime.NumGoroutine" := by simpa using jJ
 refine .inl ⟨by simp [callFunc, bB, AH, U], calls_of_wp bB U (wp_mono (L3 _ mG (congrFun dC)) ?_)⟩
 rintro e cl aD ⟨ao, ⟨he, L4⟩, L5⟩
 obtain ⟨ao, ⟨ds, hV, EB, rv, sV⟩, ah, dB, g3, bI, aL, dR⟩ := L5.dv L4
 obtain ⟨xs, ia, bF, dJ, cz⟩ := L2 bp dR _ ds hV rv
 have L6 : (results fn cl.tmps) = (do let vs ← fn.results.mapM (tF cl.tmps); pure (if h : vs.size = 1 then vs[0] else .tuple vs)) := by
  unfold results
  congr 1
 have px : (results fn cl.tmps).run C.P aD = .ok (if h : xs.toArray.size = 1 then xs.toArray[0] else .tuple xs.toArray) aD := by
  rw [L6, Array.mapM_eq_mapM_toList]
  simp [ia]
 have nm : (r.tree = true ∧ du r (if h : xs.toArray.size = 1 then xs.toArray[0] else .tuple xs.toArray) ∧
   ax aD bI r (cm (if h : xs.toArray.size = 1 then xs.toArray[0] else .tuple xs.toArray)) (fun b => ∃ t ∈ fn.results.toList.map ix, aL t b)) := by
  by_cases ab : ∃ d, ds = [d]
  ·obtain ⟨d, rfl⟩ := ab
   obtain ⟨x, rfl⟩ : ∃ x, xs = [x] := by
    cases xs with
    | nil => simp at bF
    | cons x xs => cases xs with
      | nil => exact ⟨x, rfl⟩
      | cons y bT => simp at bF
   obtain ⟨bN, b6, et, dy, fk⟩ := cz 0 d x rfl rfl
   have L7 : d = r := EB.symm
   subst L7
   simp only [List.flatMap_cons, List.flatMap_nil, List.append_nil] at dJ
   rw [a6] at dJ
   obtain ⟨cr, cu, b1, dg, aJ, aP, a_, cD, c4, b8⟩ := dJ
   rw [a6] at a_; subst a_
   simp only [List.append_nil] at aJ; subst aJ
   have au : (if h : ([x] : List Value).toArray.size = 1 then ([x] : List Value).toArray[0] else .tuple ([x] : List Value).toArray) = x := by simp
   rw [au, dy]
   exact ⟨fk, bN, ax.mono (fun _ h => h) _ _ _ _ cD aP⟩
  ·have wK : r = .tuple ds := by
    rw [EB]
    cases ds with
    | nil => rfl
    | cons d ds => cases ds with
      | nil => exact (ab ⟨d, rfl⟩).elim
      | cons e ds => rfl
   have au : (if h : xs.toArray.size = 1 then xs.toArray[0] else Value.tuple xs.toArray) = .tuple xs.toArray := by
    rw [dif_neg]
    intro dB
    have : ds.length = 1 := by rw [← bF]; simpa using dB
    obtain ⟨d, ah⟩ := List.length_eq_one_iff.1 this
    exact ab ⟨d, ah⟩
   rw [au, wK]
   refine ⟨rfl, ⟨xs.toArray, rfl, by simpa using bF, fun k d x ah au => ?_⟩, ?_⟩
   ·obtain ⟨bN, b6, et, dy, _⟩ := cz k d x ah (by simpa using au)
    exact ⟨(EA b6 bN).2, b6, et⟩
   ·rw [ax]
    simpa [cm] using dJ
 have post : ∀ (v : Value), (r.tree = true ∧ du r v ∧ ax aD bI r (cm v) (fun b => ∃ t ∈ fn.results.toList.map ix, aL t b)) → ∃ rl b1, bE w F X rl b1 (e3 (r :: outs)) (gv (v :: vs)) aD := by
  rintro v ⟨v1, v2, v3⟩
  have AJ : ∀ i, (outs.getD i .hole).fq = true → outs.getD i .hole = ao i ∧ i ∈ fx ∧ i ∉ fn.results.toList.map ix := by
   intro i ak
   cases bU : outs[i]? with
   | none => simp [List.getD, bU, I.fq] at ak
   | some o =>
     have e : outs.getD i .hole = o := by simp [List.getD, bU]
     rw [e] at ak ⊢
     rcases sV i o bU with h | h
     ·subst h; simp [I.fq] at ak
     ·exact ⟨h.1, h.2.2⟩
  refine ⟨bI, fun t b => match t with | 0 => ∃ t ∈ fn.results.toList.map ix, aL t b | i + 1 => (outs.getD i .hole).fq = true ∧ aL i b, dR.gk, dR.gC, dR.eT, ?_, ?_, ?_, ?_, ?_, dR.old, dR.size, dR.os, dR.tape, dR.output⟩
  ·intro t b U
   cases t with
   | zero => obtain ⟨t, _, U⟩ := U; exact dR.dM t b U
   | succ i => exact dR.dM i b U.2
  ·intro t b U
   cases t with
   | zero => obtain ⟨t, _, U⟩ := U; exact dR.ff t b U
   | succ i => exact dR.ff i b U.2
  ·intro t u b cV U hu
   cases t with
   | zero =>
     obtain ⟨t, aZ, U⟩ := U
     cases u with
     | zero => exact cV rfl
     | succ j =>
       refine dR.eU t j b (fun e => ?_) U hu.2
       subst e; exact (AJ t hu.1).2.2 aZ
   | succ i =>
     cases u with
     | zero =>
       obtain ⟨t, aZ, hu⟩ := hu
       refine dR.eU t i b (fun e => ?_) hu U.2
       subst e; exact (AJ t U.1).2.2 aZ
     | succ j => exact dR.eU i j b (by omega) U.2 hu.2
  ·intro t b U
   cases t with
   | zero => obtain ⟨t, _, U⟩ := U; exact dR.dh t b U
   | succ i => exact dR.dh i b U.2
  ·intro t
   cases t with
   | zero => exact (aH.cv v1).2 ⟨v2, v3⟩
   | succ i =>
     show aH aD bI (e3 (r :: outs)) (gv (v :: vs)) (outs.getD i .hole) (vs.getD i undef) (fun b => (outs.getD i .hole).fq = true ∧ aL i b)
     cases ak : (outs.getD i .hole).fq with
     | false =>
       have : outs.getD i .hole = .hole := by
        cases bU : outs[i]? with
        | none => simp [List.getD, bU]
        | some o =>
          have e : outs.getD i .hole = o := by simp [List.getD, bU]
          rw [e] at ak ⊢
          rcases sV i o bU with h | h
          ·exact h
          ·rw [h.2.1] at ak; cases ak
       rw [this, aH]; trivial
     | true =>
       obtain ⟨lf, jk, mB⟩ := AJ i ak
       have aZ := (oz ak).2.1
       have hJ := dR.da i
       rw [← lf] at hJ
       obtain ⟨aY, bs⟩ := (aH.cv aZ).1 hJ
       have aK : cl.tmps.getD i undef = vs.getD i undef := g3 i jk
       rw [aK] at aY bs
       exact (aH.cv aZ).2 ⟨aY, ax.mono (fun _ h => h) _ _ _ _ (fun b U => ⟨rfl, U⟩) bs⟩
 rcases he with rfl | rfl
 ·exact ⟨ah, _, px, _, rfl, post _ nm⟩
 ·exact ⟨ah, _, px, _, rfl, post _ nm⟩
theorem aU.of_wp (bp : C.Ok) {f : FuncId} {fn : Func} {c : Code} {c2 : J} {fx : List Nat} {as outs : List I} {r : I} (bB : C.P.funcs[f]? = some fn) (U : fn.body = some c)
  (jJ : (fn.name == "runtime.NumGoroutine") = false) (aa : bQ ⟨fn.ntmps, fx⟩ c = some c2.strip) (bl : as.length ≤ fn.ntmps)
  (h : cG C c2 (fun e s => (e = .normal ∨ e = .ret) ∧ dv (Ends C fx fn.results.toList r outs) s) (e3 as)) (an : c2.plain = true := by kernel_rfl) : aU C f as r outs :=
 fun w F X S vs hl aO => AG bp bB U jJ bl hl aO fun a mG _ => Ez bp c (by rw [J.AA]; exact aa) (J.wH c2 (J.Er c2 an)) (wI c2 h) mG
end
def num : Nat → List I → List (Nat × I)
 | _, [] => []
 | k, a :: as => (k, a) :: num (k + 1) as
theorem L8 : ∀ (as : List I) (k t : Nat), R (num k as) (k + t) = as.getD t .hole := by
 intro as
 induction as with
 | nil => intro k t; simp [num, R]
 | cons a as ih =>
   intro k t
   cases t with
   | zero => simp [num, R]
   | succ t =>
     have := ih (k + 1) t
     simp only [num, R]
     rw [if_neg (by omega)]
     rw [show k + (t + 1) = k + 1 + t by omega, this]
     simp
theorem wL (as : List I) : e3 as = R (num 0 as) := by
 funext t
 have := L8 as 0 t
 rw [Nat.zero_add] at this
 rw [this]; rfl
theorem jK (l : List (Nat × I)) (t : Nat) (d : I) : cY (R l) t d = R ((t, d) :: l) := by
 funext u; simp only [cY, R]
def mJ (t : Nat) : List (Nat × I) → List (Nat × I)
 | [] => []
 | (u, d) :: l => (u, cn t d) :: mJ t l
def pW (t : Nat) : List (Nat × I) → List (Nat × I)
 | [] => []
 | (u, d) :: l => (u, bW t d) :: pW t l
theorem tG (t : Nat) : ∀ l : List (Nat × I), ki t (R l) = R (mJ t l) := by
 intro l
 funext u
 induction l with
 | nil => rfl
 | cons p l ih =>
   obtain ⟨v, d⟩ := p
   simp only [ki, R, mJ] at ih ⊢
   split
   ·rfl
   ·exact ih
theorem L9 (t : Nat) : ∀ l : List (Nat × I), hp t (R l) = R (pW t l) := by
 intro l
 funext u
 induction l with
 | nil => rfl
 | cons p l ih =>
   obtain ⟨v, d⟩ := p
   simp only [hp, R, pW] at ih ⊢
   split
   ·rfl
   ·exact ih
def hz (k : List Nat) (s : aj) : List (Nat × I) := k.map fun t => (t, s t)
section
variable {C : bZ} {l : List (Nat × I)}
def eX.pX : eX → Bool
 | .call _ _ => true
 | .ag _ => false
 | .ai _ => false
 | .pick _ _ _ => false
 | .dS _ => false
 | .di _ _ => false
 | .eQ _ _ => false
 | .dN _ _ _ => false
 | .aM _ _ => false
 | .cP _ _ _ => false
 | .dz _ => false
 | .aB _ _ _ _ => false
 | .un _ _ => false
 | .eP _ _ _ => false
 | .hd _ _ => false
 | .eG _ _ _ => false
 | .ed _ _ _ _ => false
 | .bc _ _ _ => false
 | .bX _ _ _ => false
 | .idx _ _ _ => false
 | .ex _ _ => false
 | .len _ _ => false
 | .app _ _ _ _ => false
 | .shr _ => true
 | .lN _ _ _ _ => false
 | .cap _ _ => false
 | .nd _ _ _ => false
 | .bad => false
 | .kI _ _ _ _ => true
 | .kJ _ _ _ => true
 | .j0 _ _ => false
variable {Q : Exit → aj → Prop}
def I.AK : I → Bool
 | .tuple _ => true
 | _ => false
theorem Ends.one {fx : List Nat} {t : Nat} {r : I} {s : aj} (ab : s t = r) (af : (r.tree && !r.AK) = true) : Ends C fx [.tmp t] r [] s := by
 simp only [Bool.and_eq_true, Bool.not_eq_true'] at af
 obtain ⟨af, wM⟩ := af
 have aF : ∀ vs, r ≠ .tuple vs := fun vs e => by subst e; simp [I.AK] at wM
 refine ⟨[r], ?_, rfl, by simp, fun i o h => by simp at h⟩
 have : oG C s (.tmp t) = some r := by
  simp only [oG, ab, af, if_true]
  try (cases r <;> first | rfl | exact (aF _ rfl).elim)
 simp only [List.map_cons, List.map_nil, this]
end
section
variable {C : bZ} {l : List (Nat × I)} {Q : Exit → aj → Prop}
theorem aU.outs {f : FuncId} {as : List I} {r : I} {lf jk : List I} (h : aU C f as r lf) (he : e3 lf = e3 jk) : aU C f as r jk := by
 intro w F X S vs hl aO
 refine lT.mono (h w F X S vs hl aO) ?_
 rintro v aD ⟨bI, aL, bq⟩
 refine ⟨bI, aL, ?_⟩
 have : e3 (r :: jk) = e3 (r :: lf) := by
  funext t
  cases t with
  | zero => rfl
  | succ t => exact (congrFun he t).symm
 rw [this]; exact bq
def kr : List I → List I → List cj
 | a :: as, d :: ds => ⟨a, false, d, .hole⟩ :: kr as ds
 | _, _ => []
theorem L_ {s : aj} : ∀ (as ds : List I), views s as = some ds → (kr as ds).map (·.a) = as ∧ (kr as ds).map (·.d) = ds ∧ (∀ p ∈ kr as ds, p.ok s ∧ p.g = false ∧ p.o = .hole ∧ p.a ∈ as) ∧ hg (kr as ds) = true ∧
  e3 ((kr as ds).map (·.o)) = e3 [] ∧ (∀ nR, eu nR (kr as ds) = nR) ∧ (∀ nR, g2 nR (kr as ds) = nR) := by
 intro as
 induction as with
 | nil =>
   intro ds h
   simp only [views, Option.some.injEq] at h; subst h
   exact ⟨rfl, rfl, (fun p an => by cases an), rfl, rfl, fun _ => rfl, fun _ => rfl⟩
 | cons a as ih =>
   intro ds h
   simp only [views] at h
   split at h
   ·rename_i d Ma ab af
    simp only [Option.some.injEq] at h; subst h
    obtain ⟨aJ, aP, a_, cD, c4, b8, b2⟩ := ih Ma af
    refine ⟨by simp only [kr, List.map_cons, aJ], by simp only [kr, List.map_cons, aP], ?_, ?_, ?_, ?_, ?_⟩
    ·intro p an
     simp only [kr, List.mem_cons] at an
     rcases an with rfl | an
     ·exact ⟨by simp only [cj.ok]; exact ab, rfl, rfl, by simp⟩
     ·obtain ⟨aY, bs, b_, dq⟩ := a_ p an
      exact ⟨aY, bs, b_, by simp [dq]⟩
    ·simp only [kr, hg, cD, Bool.and_true, List.all_eq_true]
     intro p an
     simp [(a_ p an).2.1]
    ·funext t
     cases t with
     | zero => rfl
     | succ t => exact (congrFun c4 t).trans (by simp [e3])
    ·intro nR; exact b8 nR
    ·intro nR; exact b2 nR
   ·cases h
end
structure eC where
 bx : List Nat
 H : List Nat
 T : List Nat
 c : Bool
mutual
def I.clean : I → Bool
 | .hole => false
 | .fn _ cap => I.ry cap
 | _ => true
def I.ry : List I → Bool
 | [] => true
 | d :: ds => d.clean && I.ry ds
end
mutual
theorem EC {x : Nat} : ∀ a : I, (bW x a).clean = true → bW x a = a
 | .h y q, h => by
   simp only [bW] at h ⊢
   split
   ·rename_i e; rw [if_pos e] at h
    split
    ·rfl
    ·rename_i ei; rw [if_neg ei] at h; simp [I.clean] at h
   ·rfl
 | .an y q, h => by
   simp only [bW] at h ⊢
   split
   ·rename_i e; rw [if_pos e] at h; simp [I.clean] at h
   ·rfl
 | .U y q, h => rfl
 | .fn f cap, h => by simp only [bW, I.clean] at h ⊢; rw [ED cap h]
 | .hole, _ => rfl
 | .bool _, _ => rfl
 | .dV, _ => rfl
 | .int _ _, _ => rfl
 | .str _, _ => rfl
 | .c7, _ => rfl
 | .bA, _ => rfl
 | .slice _, _ => rfl
 | .aE _ _, _ => rfl
 | .ref _, _ => rfl
 | .bd _, _ => rfl
 | .agg _, _ => rfl
 | .tuple _, _ => rfl
theorem ED {x : Nat} : ∀ ds : List I, I.ry (hc x ds) = true → hc x ds = ds
 | [], _ => rfl
 | d :: ds, h => by
   simp only [hc, I.ry, Bool.and_eq_true] at h ⊢
   rw [EC d h.1, ED ds h.2]
end
mutual
theorem EE {x : Nat} : ∀ a : I, (cn x a).clean = true → cn x a = a
 | .h y q, h => by
   simp only [cn] at h ⊢
   split
   ·rename_i e; rw [if_pos e] at h; simp [I.clean] at h
   ·rfl
 | .an y q, h => by
   simp only [cn] at h ⊢
   split
   ·rename_i e; rw [if_pos e] at h; simp [I.clean] at h
   ·rfl
 | .U y q, h => by
   simp only [cn] at h ⊢
   split
   ·rename_i e; rw [if_pos e] at h; simp [I.clean] at h
   ·rfl
 | .fn f cap, h => by simp only [cn, I.clean] at h ⊢; rw [EF cap h]
 | .hole, _ => rfl
 | .bool _, _ => rfl
 | .dV, _ => rfl
 | .int _ _, _ => rfl
 | .str _, _ => rfl
 | .c7, _ => rfl
 | .bA, _ => rfl
 | .slice _, _ => rfl
 | .aE _ _, _ => rfl
 | .ref _, _ => rfl
 | .bd _, _ => rfl
 | .agg _, _ => rfl
 | .tuple _, _ => rfl
theorem EF {x : Nat} : ∀ ds : List I, I.ry (hG x ds) = true → hG x ds = ds
 | [], _ => rfl
 | d :: ds, h => by
   simp only [hG, I.ry, Bool.and_eq_true] at h ⊢
   rw [EE d h.1, EF ds h.2]
end
theorem Mb {k : nf} {x : Nat} {a : I} (h : (k.app x a).clean = true) : k.app x a = a := by
 cases k with
 | no => rfl
 | bW => exact EC a h
 | cn => exact EE a h
theorem Mc : ∀ (ms : List fK) (u : Nat) (a : I), (∀ m ∈ ms, m.x ≠ u) → (im ms u a).clean = true → im ms u a = a := by
 intro ms
 induction ms with
 | nil => intros; rfl
 | cons m ms ih =>
   intro u a au al
   simp only [im] at al ⊢
   have e := ih u _ (fun hs j4 => au hs (by simp [j4])) al
   have hm : m.at u a = m.k.app m.x a := by
    simp only [fK.at]; rw [if_neg (fun e => au m (by simp) e.symm)]
   rw [e, hm]
   rw [e, hm] at al
   exact Mb al
theorem Md : ∀ (ms : List fK) (u : Nat) (a : I), (∀ m ∈ ms, m.x ≠ u ∧ m.x ∉ a.aa) → im ms u a = a := by
 intro ms
 induction ms with
 | nil => intros; rfl
 | cons m ms ih =>
   intro u a au
   simp only [im]
   have hm : m.at u a = a := by
    simp only [fK.at]; rw [if_neg (fun e => (au m (by simp)).1 e.symm)]
    exact ti (.inr (au m (by simp)).2)
   rw [hm]
   exact ih u a fun hs j4 => au hs (by simp [j4])
theorem Me (m : fK) : ∀ (ms : List fK) (u : Nat) (a : I), (∀ hs ∈ ms, hs.x ≠ m.x ∧ hs.x ∉ m.d.aa ∧ m.x ∉ hs.d.aa) → im ms u (m.at u a) = m.at u (im ms u a) := by
 intro ms
 induction ms with
 | nil => intros; rfl
 | cons n ms ih =>
   intro u a au
   simp only [im]
   have bl := au n (by simp)
   have al : n.at u (m.at u a) = m.at u (n.at u a) := by
    simp only [fK.at]
    by_cases aJ : u = n.x
    ·subst aJ
     rw [if_pos rfl, if_neg bl.1, if_pos rfl]
     exact (ti (.inr bl.2.2)).symm
    ·rw [if_neg aJ]
     by_cases aP : u = m.x
     ·subst aP
      rw [if_pos rfl, if_pos rfl]
      exact ti (.inr bl.2.1)
     ·rw [if_neg aP, if_neg aJ, if_neg aP]
      exact KK _ _ _ _ _
   rw [al]
   exact ih u _ fun hs j4 => au hs (by simp [j4])
theorem Mf : ∀ (ms jj : List fK) (s : aj), (∀ m ∈ ms, ∀ n ∈ jj, n.x ≠ m.x ∧ n.x ∉ m.d.aa ∧ m.x ∉ n.d.aa) → cZ jj (cZ ms s) = cZ ms (cZ jj s) := by
 intro ms
 induction ms with
 | nil => intros; rfl
 | cons m ms ih =>
   intro jj s h
   have e : ∀ s, cZ (m :: ms) s = cZ ms (cZ [m] s) := fun s => j2 [m] ms s
   rw [e, e, ih jj _ (fun hs j4 => h hs (by simp [j4]))]
   congr 1
   funext u
   simp only [cZ, im]
   exact Me m jj u _ (h m (by simp))
def AL (C : bZ) (s : aj) (f : aA) (args : List aA) (K : List Nat → I → aj → Prop) : Prop :=
 ∃ (g : FuncId) (caps : List I) (ps : List cj) (r : I), aG s f = .fn g caps ∧ I.e2 caps = true ∧ ps.map (·.a) = args.map (aG s) ++ caps ∧ (∀ p ∈ ps, p.ok s) ∧ hg ps = true ∧
   aU C g (ps.map (·.d)) r (ps.map (·.o)) ∧ r.res = true ∧ (i1 ps = true → r.c8 = true ∧ ∀ p ∈ ps, p.o.c8 = true) ∧ K (I.dc ((ps.filter (·.g)).map (·.a))) r (g2 (eu s ps) ps)
def mK (C : bZ) (s : aj) (bu : eX) (K : List Nat → I → aj → Prop) : Prop :=
 match bu with
 | .call f args => ∃ (g : FuncId) (caps : List I) (ps : List cj) (r : I), aG s f = .fn g caps ∧ I.e2 caps = true ∧ ps.map (·.a) = args.map (aG s) ++ caps ∧ (∀ p ∈ ps, p.ok s) ∧ hg ps = true ∧
   aU C g (ps.map (·.d)) r (ps.map (·.o)) ∧ r.res = true ∧ (i1 ps = true → r.c8 = true ∧ ∀ p ∈ ps, p.o.c8 = true) ∧ K (I.dc ((ps.filter (·.g)).map (·.a))) r (g2 (eu s ps) ps)
 | .shr bu => ∃ av s1, bH C s bu = some (av, s1) ∧ av.tree = true ∧ (∀ vs, av ≠ .tuple vs) ∧ K (c1 s bu) av.share s1
 | .kI f args u x => s u = .h x [] ∧ (s x).own = true ∧ AL C s f args fun ct av s1 => s1 u = .hole ∧ (s1 x).own = true ∧ K (u :: ct) av (cY s1 u (.h x []))
 | .kJ f args us => nj s (kq s us) = true ∧ AL C s f args fun ct av s1 => nj s1 (kq s us) = true ∧ K (us ++ ct) av (nQ s1 (kq s us))
 | bu => ∃ av s1, bH C s bu = some (av, s1) ∧ K (c1 s bu) av s1
def hA (s : aj) (bx : List Nat) (dst : Option Nat) (ct : List Nat) (av : I) : eC :=
 ⟨bx, bx.flatMap (fun u => (s u).aa) ++ av.aa, dst.toList ++ ct, bx.all fun u => (s u).clean⟩
def lW (C : bZ) (s : aj) (o : cg) (K : eC → aj → Prop) : Prop :=
 match o.guard with
 | none => mK C s o.bu fun ct av s1 => K (hA s (use s o.bu) o.dst ct av) (fin s1 o.dst av)
 | some (t, b) => match s t with
   | .bool eO => if eO = b then mK C s o.bu (fun ct av s1 => K (hA s (t :: use s o.bu) o.dst ct av) (fin s1 o.dst av)) else K (hA s [t] o.dst [] (.tuple [])) (fin s o.dst (.tuple []))
   | .tuple [] => K (hA s [t] o.dst [] (.tuple [])) (fin s o.dst (.tuple []))
   | _ => False
def nS : Option (List eC) → eC → Option (List eC)
 | none, _ => none
 | some l, f => some (f :: l)
def cb (C : bZ) (s : aj) : List cg → Option (List eC) → (Option (List eC) → aj → Prop) → Prop
 | [], acc, K => K acc s
 | o :: os, acc, K => lW C s o fun f s1 => cb C s1 os (nS acc f) K
section
variable {C : bZ}
theorem EG {s : aj} {bu : eX} {K : List Nat → I → aj → Prop} {cW : I → aj → Prop} (ay : ∀ ct av s, K ct av s → cW av s) (h : mK C s bu K) : lU C s bu cW := by
 cases bu with
 | call f args =>
   obtain ⟨g, caps, ps, r, ab, fE, af, aF, bb, bV, cd, cf, er⟩ := h
   exact ⟨g, caps, ps, r, ab, fE, af, aF, bb, bV, cd, cf, ay _ _ _ er⟩
 | kI f args u x =>
   obtain ⟨bN, b6, g, caps, ps, r, ab, fE, af, aF, bb, bV, cd, cf, er, g1, gp⟩ := h
   exact ⟨bN, b6, g, caps, ps, r, ab, fE, af, aF, bb, bV, cd, cf, er, g1, ay _ _ _ gp⟩
 | kJ f args us =>
   obtain ⟨b6, g, caps, ps, r, ab, fE, af, aF, bb, bV, cd, cf, er, g1⟩ := h
   exact ⟨b6, g, caps, ps, r, ab, fE, af, aF, bb, bV, cd, cf, er, ay _ _ _ g1⟩
 | shr bu =>
   obtain ⟨av, s1, ab, af, aF, bb⟩ := h
   exact ⟨av, s1, ab, af, aF, ay _ _ _ bb⟩
 | _ =>
   obtain ⟨av, s1, ab, af⟩ := h
   exact ⟨av, s1, ab, ay _ _ _ af⟩
theorem Mg {s : aj} {o : cg} {K : eC → aj → Prop} {cW : aj → Prop} (ay : ∀ f s, K f s → cW s) (h : lW C s o K) : j3 C s o cW := by
 unfold lW at h
 unfold j3
 split
 ·rename_i bO; rw [bO] at h; exact EG (fun _ _ _ => ay _ _) h
 ·rename_i t b bO
  rw [bO] at h
  simp only at h
  split
  ·rename_i eO aa
   rw [aa] at h
   simp only at h
   split
   ·rename_i U; rw [if_pos U] at h; exact EG (fun _ _ _ => ay _ _) h
   ·rename_i U; rw [if_neg U] at h; exact ay _ _ h
  ·rename_i aa; rw [aa] at h; exact ay _ _ h
  ·rename_i ab af
   split at h
   ·exact ab _ (by assumption)
   ·exact af (by assumption)
   ·exact h
theorem pY {K : aj → Prop} : ∀ {ros : List cg} {s : aj} {acc : Option (List eC)} {cW : Option (List eC) → aj → Prop}, (∀ a s, cW a s → K s) → cb C s ros acc cW → jI C s ros K := by
 intro ros
 induction ros with
 | nil => intro s acc cW ay h; exact ay _ _ h
 | cons o ros ih => intro s acc cW ay h; exact Mg (fun f s h => ih ay h) h
theorem EH {q : List Nat} {a d : I} (h : I.sub q a = some d) (cC : q ≠ [] ∨ d.aa = []) : a.aa = [] := by
 cases q with
 | nil =>
   simp only [I.sub, Option.some.injEq] at h; subst h
   exact cC.resolve_left (fun e => e rfl)
 | cons k q => cases a <;> first | rfl | (simp [I.sub] at h)
def wN (s : aj) (p : cj) (e : I → Prop) : Prop := p.g = true → ∃ x q d, p.a = .h x q ∧ I.sub q (s x) = some d ∧ e d ∧ (p.o = .hole ∨ p.o.fq = true)
theorem EI {d : I} (h : d.fq = true) : d.aa = [] := Ak (oz h).2.1
theorem EJ {d : I} (h : d.fq = true) : d.cH.aa = [] := by cases d <;> first | rfl | (simp [I.fq] at h)
theorem EK {p : cj} {ps : List cj} (h : hg (p :: ps) = true) : hg ps = true ∧ ∀ b9 ∈ ps, (p.g = true ∨ b9.g = true) → ∀ u ∈ p.a.aa, u ∉ b9.a.aa := by
 simp only [hg, Bool.and_eq_true, List.all_eq_true, Bool.or_eq_true, Bool.not_eq_true'] at h
 refine ⟨h.2, fun b9 dA bO u hu => ?_⟩
 rcases h.1 b9 dA with e | e
 ·rcases bO with bO | bO <;> simp [bO] at e
 ·simpa using e u hu
def oH (ps : List cj) : List Nat := I.dc ((ps.filter (·.g)).map (·.a))
theorem rz (p : cj) (ps : List cj) : (∀ u ∈ oH ps, u ∈ oH (p :: ps)) ∧ (p.g = true → ∀ u ∈ p.a.aa, u ∈ oH (p :: ps)) := by
 unfold oH
 by_cases bO : p.g = true
 ·simp only [List.filter_cons, bO, if_true, List.map_cons, I.dc, List.mem_append]
  exact ⟨fun u h => .inr h, fun _ u h => .inl h⟩
 ·simp only [List.filter_cons, bO]
  exact ⟨fun u h => h, fun h => by simp at h⟩
theorem Mh {p : cj} {ps : List cj} (h : p ∈ ps) : ∀ u ∈ p.a.aa, u ∈ I.dc (ps.map (·.a)) := by
 induction ps with
 | nil => cases h
 | cons b9 ps ih =>
   intro u hu
   simp only [List.map_cons, I.dc, List.mem_append]
   rcases List.mem_cons.1 h with rfl | h
   ·exact .inl hu
   ·exact .inr (ih h u hu)
theorem Mi : ∀ (ps : List cj) (s : aj), (∀ p ∈ ps, wN s p (fun d => d = p.d ∧ p.d.fq = true)) → hg ps = true →
  (∃ ms : List fK, (∀ m ∈ ms, m.x ∈ oH ps ∧ m.d.aa = []) ∧ ∀ ao, dd (I.dc (ps.map (·.a))) ao s → eu ao ps = cZ ms ao) ∧ ∀ p ∈ ps, wN (eu s ps) p (fun d => d = p.d.cH ∧ p.d.fq = true) := by
 intro ps
 induction ps with
 | nil => intro s _ _; exact ⟨⟨[], by simp, fun ao _ => rfl⟩, fun p an => by cases an⟩
 | cons p ps ih =>
   intro s bO ji
   obtain ⟨mA, lS⟩ := EK ji
   by_cases ks : p.g = true
   ·obtain ⟨x, q, d, b7, aa, ⟨rfl, ah⟩, bU⟩ := bO p (by simp) ks
    have iG : (I.put q p.d.cH (s x)).aa = [] := tj q _ _ _ aa (.inl (oz ah).1) fun _ => EJ ah
    have tH : ∀ ao : aj, ao x = s x → p.take ao = cZ [⟨.bW, x, I.put q p.d.cH (s x)⟩] ao := by
     intro ao e
     simp only [cj.take, ks, if_true, b7, e, tg]
    have cV : ∀ b9 ∈ ps, ∀ cx hT, b9.a = .h cx hT → cx ≠ x := by
     intro b9 dA cx hT e ei
     have := lS b9 dA (.inl ks) x (by simp [b7, I.aa])
     rw [e, ei] at this; simp [I.aa] at this
    have oA : ∀ cx, cx ≠ x → (s cx).aa = [] → cZ [⟨.bW, x, I.put q p.d.cH (s x)⟩] s cx = s cx := by
     intro cx zP bh
     simp only [cZ, im, fK.at]
     rw [if_neg zP]
     exact ti (.inr (by rw [bh]; simp))
    obtain ⟨⟨ms, eV, fY⟩, gK⟩ := ih (cZ [⟨.bW, x, I.put q p.d.cH (s x)⟩] s) (fun b9 dA AM => by
     obtain ⟨cx, hT, br, pP, ef, fV, tI⟩ := bO b9 (by simp [dA]) AM
     refine ⟨cx, hT, br, pP, ?_, fV, tI⟩
     rw [oA cx (cV b9 dA cx hT pP) (EH ef (.inr (by rw [fV.1]; exact EI fV.2)))]; exact ef) mA
    refine ⟨⟨[⟨.bW, x, I.put q p.d.cH (s x)⟩] ++ ms, ?_, ?_⟩, ?_⟩
    ·intro m hm
     rcases List.mem_append.1 hm with hm | hm
     ·simp only [List.mem_singleton] at hm; subst hm
      exact ⟨(rz p ps).2 ks x (by simp [b7, I.aa]), iG⟩
     ·exact ⟨(rz p ps).1 _ (eV m hm).1, (eV m hm).2⟩
    ·intro ao ef
     simp only [List.map_cons, I.dc] at ef
     have e : ao x = s x := ef x (by simp [b7, I.aa])
     rw [j2]
     show eu (p.take ao) ps = _
     rw [tH ao e]
     exact fY _ (dd.cZ ef.right _)
    ·have aJ : eu s (p :: ps) = eu (cZ [⟨.bW, x, I.put q p.d.cH (s x)⟩] s) ps := by
      show eu (p.take s) ps = _
      rw [tH s rfl]
     rw [aJ]
     intro b9 dA
     rcases List.mem_cons.1 dA with rfl | dA
     ·intro _
      refine ⟨x, q, b9.d.cH, b7, ?_, ⟨rfl, ah⟩, bU⟩
      have aK : cZ [⟨.bW, x, I.put q b9.d.cH (s x)⟩] s x = I.put q b9.d.cH (s x) := by
       simp only [cZ, im, fK.at, if_true]
      rw [Ai (by rw [aK]; exact iG) (fun Mj Mk ahb => ?_), aK]
      ·exact D5 q _ _ _ aa
      ·exact lS Mj Mk (.inl ks) x (by simp [b7, I.aa])
     ·exact gK b9 dA
   ·have tH : ∀ ao : aj, p.take ao = ao := by intro ao; simp only [cj.take, ks]; rfl
    obtain ⟨⟨ms, eV, fY⟩, gK⟩ := ih s (fun b9 dA => bO b9 (by simp [dA])) mA
    refine ⟨⟨ms, fun m hm => ⟨(rz p ps).1 _ (eV m hm).1, (eV m hm).2⟩, ?_⟩, ?_⟩
    ·intro ao ef
     simp only [List.map_cons, I.dc] at ef
     show eu (p.take ao) ps = _
     rw [tH]; exact fY ao ef.right
    ·intro b9 dA
     have aJ : eu s (p :: ps) = eu s ps := by show eu (p.take s) ps = _; rw [tH]
     rw [aJ]
     rcases List.mem_cons.1 dA with rfl | dA
     ·intro h; exact (ks h).elim
     ·exact gK b9 dA
theorem Ml : ∀ (ps : List cj) (s : aj), (∀ p ∈ ps, wN s p (fun d => d = p.d.cH ∧ p.d.fq = true)) → hg ps = true →
  (∃ ms : List fK, (∀ m ∈ ms, m.x ∈ oH ps ∧ m.d.aa = []) ∧ ∀ ao, dd (I.dc (ps.map (·.a))) ao s → g2 ao ps = cZ ms ao) := by
 intro ps
 induction ps with
 | nil => intro s _ _; exact ⟨[], by simp, fun ao _ => rfl⟩
 | cons p ps ih =>
   intro s bO ji
   obtain ⟨mA, lS⟩ := EK ji
   by_cases ks : p.g = true ∧ p.o ≠ .hole
   ·obtain ⟨ks, Mm⟩ := ks
    obtain ⟨x, q, d, b7, aa, ⟨rfl, ah⟩, bU⟩ := bO p (by simp) ks
    have bU : p.o.fq = true := bU.resolve_left Mm
    have iG : (I.put q p.o (s x)).aa = [] := by
     cases q with
     | nil => simp only [I.put]; exact EI bU
     | cons k q => exact tj _ _ _ _ aa (.inr (by simp)) (by simp)
    have AN : ∀ ao : aj, ao x = s x → p.hI ao = cZ [⟨.cn, x, I.put q p.o (s x)⟩] ao := by
     intro ao e
     simp only [cj.hI, ks, if_true, b7]
     rw [e, DQ]
    have cV : ∀ b9 ∈ ps, ∀ cx hT, b9.a = .h cx hT → cx ≠ x := by
     intro b9 dA cx hT e ei
     have := lS b9 dA (.inl ks) x (by simp [b7, I.aa])
     rw [e, ei] at this; simp [I.aa] at this
    obtain ⟨ms, eV, fY⟩ := ih (cZ [⟨.cn, x, I.put q p.o (s x)⟩] s) (fun b9 dA AM => by
     obtain ⟨cx, hT, br, pP, ef, fV, tI⟩ := bO b9 (by simp [dA]) AM
     refine ⟨cx, hT, br, pP, ?_, fV, tI⟩
     have bh := EH ef (.inr (by rw [fV.1]; exact EJ fV.2))
     have oA : cZ [⟨.cn, x, I.put q p.o (s x)⟩] s cx = s cx := by
      simp only [cZ, im, fK.at]
      rw [if_neg (cV b9 dA cx hT pP)]
      exact ti (.inr (by rw [bh]; simp))
     rw [oA]; exact ef) mA
    refine ⟨[⟨.cn, x, I.put q p.o (s x)⟩] ++ ms, ?_, ?_⟩
    ·intro m hm
     rcases List.mem_append.1 hm with hm | hm
     ·simp only [List.mem_singleton] at hm; subst hm
      exact ⟨(rz p ps).2 ks x (by simp [b7, I.aa]), iG⟩
     ·exact ⟨(rz p ps).1 _ (eV m hm).1, (eV m hm).2⟩
    ·intro ao ef
     simp only [List.map_cons, I.dc] at ef
     have e : ao x = s x := ef x (by simp [b7, I.aa])
     rw [j2]
     show g2 (p.hI ao) ps = _
     rw [AN ao e]
     exact fY _ (dd.cZ ef.right _)
   ·have AN : ∀ ao : aj, p.hI ao = ao := by
     intro ao
     unfold cj.hI
     split
     ·rename_i gu
      have : p.o = .hole := by
       by_cases h : p.o = .hole
       ·exact h
       ·exact (ks ⟨gu, h⟩).elim
      rw [this]
     ·rfl
    obtain ⟨ms, eV, fY⟩ := ih s (fun b9 dA => bO b9 (by simp [dA])) mA
    refine ⟨ms, fun m hm => ⟨(rz p ps).1 _ (eV m hm).1, (eV m hm).2⟩, ?_⟩
    intro ao ef
    simp only [List.map_cons, I.dc] at ef
    show g2 (p.hI ao) ps = _
    rw [AN]; exact fY ao ef.right
theorem Mn {s ao : aj} : ∀ (a : I) (d : I), dd a.aa ao s → view s a = some d → view ao a = some d := by
 intro a d h
 have := Al (s := s) (ao := ao) a d
 intro aK
 cases a with
 | h x q => simp only [view] at aK ⊢; rw [h x (by simp [I.aa])]; exact aK
 | an x q => simp only [view] at aK ⊢; rw [h x (by simp [I.aa])]; exact aK
 | fn f cap =>
   refine this (fun u hu _ => h u hu) aK
 | _ => exact aK
theorem Mo {p : cj} {s ao : aj} (h : dd p.a.aa ao s) (fs : p.ok s) : p.ok ao := by
 unfold cj.ok at fs ⊢
 split
 ·rename_i bO
  rw [if_pos bO] at fs
  cases b7 : p.a with
  | h x q =>
    rw [b7] at fs
    simp only at fs ⊢
    rw [h x (by simp [b7, I.aa])]; exact fs
  | _ => rw [b7] at fs; exact fs.elim
 ·rename_i bO
  rw [if_neg bO] at fs
  exact Mn _ _ h fs
def wO (C : bZ) (o : cg) (s : aj) (i4 : eC) (ms : List fK) : Prop :=
 (∀ ao, dd i4.bx ao s → ∀ K : aj → Prop, K (cZ ms ao) → j3 C ao o K) ∧ (∀ m ∈ ms, m.x ∈ i4.T ∧ ∀ u ∈ m.d.aa, u ∈ i4.H) ∧ (∀ u ∈ i4.bx, ∀ x ∈ (s u).aa, x ∈ i4.H) ∧ (i4.c = true → ∀ u ∈ i4.bx, (s u).clean = true)
theorem EL (dst : Option Nat) (av : I) : ∃ ms : List fK, (∀ m ∈ ms, m.x ∈ dst.toList ∧ m.d = av) ∧ ∀ s1 : aj, fin s1 dst av = cZ ms s1 := by
 cases dst with
 | none => exact ⟨[], by simp, fun s => rfl⟩
 | some t =>
   simp only [fin]
   by_cases h : av.plain = true
   ·exact ⟨[⟨.no, t, av⟩], by simp, fun s => by rw [if_pos h, z2]⟩
   ·exact ⟨[⟨.cn, t, av⟩], by simp, fun s => by rw [if_neg h, DQ]⟩
theorem wP {s : aj} {bx : List Nat} {dst : Option Nat} {ct : List Nat} {av : I} : (∀ u ∈ (hA s bx dst ct av).bx, ∀ x ∈ (s u).aa, x ∈ (hA s bx dst ct av).H) ∧ ((hA s bx dst ct av).c = true → ∀ u ∈ (hA s bx dst ct av).bx, (s u).clean = true) := by
 refine ⟨fun u hu x au => ?_, fun al => ?_⟩
 ·simp only [hA, List.mem_append, List.mem_flatMap]; exact .inl ⟨u, hu, au⟩
 ·simp only [hA, List.all_eq_true] at al; exact al
theorem AO {s : aj} {f : aA} {args : List aA} {K : List Nat → I → aj → Prop} (h : AL C s f args K) :
  ∃ ct av ms, K ct av (cZ ms s) ∧ (∀ m ∈ ms, m.x ∈ ct ∧ m.d.aa = []) ∧ ∀ ao, dd (use s (.call f args)) ao s → ∀ cW : I → aj → Prop, cW av (cZ ms ao) → wA C ao f args cW := by
 obtain ⟨g, caps, ps, r, ab, fE, af, aF, bb, bV, cd, cf, er⟩ := h
 have Mp : ∀ p ∈ ps, wN s p (fun d => d = p.d ∧ p.d.fq = true) := by
  intro p an bO
  have := aF p an
  simp only [cj.ok, bO, if_true] at this
  cases b7 : p.a with
  | h x q => rw [b7] at this; exact ⟨x, q, p.d, rfl, this.1, ⟨rfl, this.2.1⟩, this.2.2.imp id fun h => h.1⟩
  | _ => rw [b7] at this; exact this.elim
 obtain ⟨⟨mz, ad, aT⟩, a3⟩ := Mi ps s Mp bb
 obtain ⟨pN, kH, h8⟩ := Ml ps (eu s ps) a3 bb
 have na : ∀ u ∈ I.dc (ps.map (·.a)), u ∈ use s (.call f args) := by
  rw [af]
  intro u hu
  simp only [use, List.mem_append]
  have key : ∀ (gE l2 : List I), u ∈ I.dc (gE ++ l2) → u ∈ I.dc gE ∨ u ∈ I.dc l2 := by
   intro gE
   induction gE with
   | nil => intro l2 h; exact .inr h
   | cons a gE ih =>
     intro l2 h
     simp only [List.cons_append, I.dc, List.mem_append] at h ⊢
     rcases h with h | h
     ·exact .inl (.inl h)
     ·exact (ih l2 h).imp .inr id
  rcases key _ _ hu with hu | hu
  ·exact .inr (aA.wu u hu)
  ·refine .inl (aA.pL u ?_)
   rw [ab]; exact hu
 have fC : g2 (eu s ps) ps = cZ (mz ++ pN) s := by
  rw [j2, ← aT s (fun _ _ => rfl), h8 _ (fun _ _ => rfl)]
 refine ⟨oH ps, r, mz ++ pN, by rw [← fC]; exact er, ?_, ?_⟩
 ·intro m hm
  rcases List.mem_append.1 hm with hm | hm
  ·exact ad m hm
  ·exact kH m hm
 ·intro ao aa cW ay
  have nN : dd (I.dc (ps.map (·.a))) ao s := aa.sub na
  have bB : dd (f.use s) ao s := by simp only [use] at aa; exact aa.left
  have au : dd (aA.lR s args) ao s := by simp only [use] at aa; exact aa.right
  have aJ : g2 (eu ao ps) ps = cZ (mz ++ pN) ao := by
   rw [j2, ← aT ao nN, h8]
   rw [aT ao nN, aT s (fun _ _ => rfl)]
   exact dd.cZ nN _
  exact ⟨g, caps, ps, r, by rw [aA.fD bB]; exact ab, fE, by rw [aA.z_ au]; exact af, fun p an => Mo (nN.sub (Mh an)) (aF p an), bb, bV, cd, cf, by rw [aJ]; exact ay⟩
mutual
theorem EM {s ao : aj} : ∀ (d : I), dd d.aa ao s → d.gw ao = d.gw s
 | .h x q, h => by simp only [I.gw]; rw [h x (by simp [I.aa])]
 | .U x q, h => by simp only [I.gw]; rw [h x (by simp [I.aa])]
 | .fn f cap, h => by simp only [I.gw]; exact EN cap (by simpa only [I.aa] using h)
 | .an _ _, _ => by simp only [I.gw]
 | .hole, _ => by simp only [I.gw]
 | .bool _, _ => by simp only [I.gw]
 | .dV, _ => by simp only [I.gw]
 | .int _ _, _ => by simp only [I.gw]
 | .str _, _ => by simp only [I.gw]
 | .c7, _ => by simp only [I.gw]
 | .bA, _ => by simp only [I.gw]
 | .slice _, _ => by simp only [I.gw]
 | .aE _ _, _ => by simp only [I.gw]
 | .ref _, _ => by simp only [I.gw]
 | .bd _, _ => by simp only [I.gw]
 | .agg _, _ => by simp only [I.gw]
 | .tuple _, _ => by simp only [I.gw]
theorem EN {s ao : aj} : ∀ (ds : List I), dd (I.dc ds) ao s → I.oC ao ds = I.oC s ds
 | [], _ => rfl
 | d :: ds, h => by
   simp only [I.dc] at h
   simp only [I.oC]; rw [EM d h.left, EN ds h.right]
end
theorem AP {s ao : aj} {us : List Nat} (h : dd (us.flatMap fun u => u :: (s u).aa) ao s) : kq ao us = kq s us := by
 unfold kq
 refine List.map_congr_left fun u hu => ?_
 rw [h u (List.mem_flatMap.2 ⟨u, hu, by simp⟩)]
theorem AQ {s ao : aj} : ∀ (L : List (Nat × I)), (∀ p ∈ L, dd p.2.aa ao s) → nj ao L = nj s L
 | [], _ => rfl
 | p :: L, h => by
   simp only [nj]; rw [EM p.2 (h p (by simp)), AQ L (fun q cC => h q (by simp [cC]))]
theorem EO : ∀ (L : List (Nat × I)) (s : aj), nQ s L = cZ (L.map fun p => ⟨.no, p.1, p.2⟩) s
 | [], s => rfl
 | p :: L, s => by
   simp only [nQ, List.map_cons]
   rw [EO L, z2]
   exact (j2 [⟨.no, p.1, p.2⟩] _ s).symm
theorem Mq {s : aj} {bu : eX} {K : List Nat → I → aj → Prop} (h : mK C s bu K) :
  ∃ ct av ms, K ct av (cZ ms s) ∧ (∀ m ∈ ms, m.x ∈ ct ∧ ∀ v ∈ m.d.aa, ∃ u ∈ use s bu, v ∈ (s u).aa) ∧ ∀ ao, dd (use s bu) ao s → ∀ cW : I → aj → Prop, cW av (cZ ms ao) → lU C ao bu cW := by
 have plain : (∃ av s1, bH C s bu = some (av, s1) ∧ K (c1 s bu) av s1) → (∀ ao (cW : I → aj → Prop) av s1, bH C ao bu = some (av, s1) → cW av s1 → lU C ao bu cW) →
   ∃ ct av ms, K ct av (cZ ms s) ∧ (∀ m ∈ ms, m.x ∈ ct ∧ ∀ v ∈ m.d.aa, ∃ u ∈ use s bu, v ∈ (s u).aa) ∧ ∀ ao, dd (use s bu) ao s → ∀ cW : I → aj → Prop, cW av (cZ ms ao) → lU C ao bu cW := by
  rintro ⟨av, s1, ab, af⟩ hw
  obtain ⟨ms, aJ, aP, a_⟩ := D4 ab
  subst aJ
  exact ⟨_, av, ms, af, fun m hm => ⟨(aP m hm).1, fun v aK => by rw [(aP m hm).2] at aK; cases aK⟩, fun ao aa cW ay => hw ao cW av _ (a_ ao aa) ay⟩
 cases bu with
 | call f args =>
   obtain ⟨ct, av, ms, ad, aT, a3⟩ := AO h
   exact ⟨ct, av, ms, ad, fun m hm => ⟨(aT m hm).1, fun v aK => by rw [(aT m hm).2] at aK; cases aK⟩, fun ao aa cW ay => a3 ao aa cW ay⟩
 | kI f args u x =>
   obtain ⟨bN, b6, al⟩ := h
   obtain ⟨ct, av, ms, ⟨ad, AR, Mr⟩, aT, a3⟩ := AO al
   have e : ∀ s : aj, cY (cZ ms s) u (.h x []) = cZ (ms ++ [⟨.no, u, .h x []⟩]) s := fun s => by rw [j2, ← z2]
   refine ⟨u :: ct, av, ms ++ [⟨.no, u, .h x []⟩], by rw [← e]; exact Mr, ?_, ?_⟩
   ·intro m hm
    rcases List.mem_append.1 hm with hm | hm
    ·exact ⟨by simp [(aT m hm).1], fun v aK => by rw [(aT m hm).2] at aK; cases aK⟩
    ·simp only [List.mem_singleton] at hm; subst hm
     refine ⟨by simp, fun v aK => ⟨u, by simp [use], ?_⟩⟩
     rw [bN]; exact aK
   ·intro ao aa cW ay
    have EP : ao u = s u := aa u (by simp [use])
    have ex : ao x = s x := aa x (by simp [use])
    refine ⟨by rw [EP]; exact bN, by rw [ex]; exact b6, a3 ao (fun y bC => aa y (by simp only [use, List.mem_cons] at bC ⊢; exact .inr (.inr bC))) _ ⟨?_, ?_, ?_⟩⟩
    ·have := ad; simp only [cZ] at this ⊢; rw [EP]; exact this
    ·have := AR; simp only [cZ] at this ⊢; rw [ex]; exact this
    ·rw [e]; exact ay
 | kJ f args us =>
   obtain ⟨b6, al⟩ := h
   obtain ⟨ct, av, ms, ⟨ad, AR⟩, aT, a3⟩ := AO al
   have e : ∀ ao : aj, nQ (cZ ms ao) (kq s us) = cZ (ms ++ (kq s us).map fun p => ⟨.no, p.1, p.2⟩) ao := fun ao => by rw [j2, EO]
   have jz : ∀ {ao : aj}, dd (us.flatMap fun u => u :: (s u).aa) ao s → ∀ p ∈ kq s us, dd p.2.aa ao s := fun {ao} aa p an v aK => by
    obtain ⟨u, hu, rfl⟩ := List.mem_map.1 an
    exact aa v (List.mem_flatMap.2 ⟨u, hu, by simp [aK]⟩)
   refine ⟨us ++ ct, av, ms ++ (kq s us).map fun p => ⟨.no, p.1, p.2⟩, by rw [← e]; exact AR, ?_, ?_⟩
   ·intro m hm
    rcases List.mem_append.1 hm with hm | hm
    ·exact ⟨by simp [(aT m hm).1], fun v aK => by rw [(aT m hm).2] at aK; cases aK⟩
    ·obtain ⟨p, an, rfl⟩ := List.mem_map.1 hm
     obtain ⟨u, hu, rfl⟩ := List.mem_map.1 an
     exact ⟨List.mem_append_left _ hu, fun v aK => ⟨u, by simp only [use, List.mem_append, List.mem_flatMap]; exact .inl ⟨u, hu, by simp⟩, aK⟩⟩
   ·intro ao aa cW ay
    simp only [use] at aa
    refine ⟨by rw [AP aa.left, AQ _ (jz aa.left)]; exact b6, a3 ao aa.right _ ⟨?_, ?_⟩⟩
    ·rw [AP aa.left, AQ _ (fun p an => (jz aa.left p an).cZ ms)]; exact ad
    ·rw [AP aa.left, e]; exact ay
 | shr bu =>
   obtain ⟨av, s1, ab, af, aF, bb⟩ := h
   obtain ⟨ms, aJ, aP, a_⟩ := D4 ab
   subst aJ
   exact ⟨_, av.share, ms, bb, fun m hm => ⟨(aP m hm).1, fun v aK => by rw [(aP m hm).2] at aK; cases aK⟩, fun ao aa cW ay => ⟨av, _, a_ ao aa, af, aF, ay⟩⟩
 | _ => exact plain h (fun ao cW av s1 ab af => ⟨av, s1, ab, af⟩)
theorem Ms {s : aj} {o : cg} {K : eC → aj → Prop} (h : lW C s o K) : ∃ i4 ms, K i4 (cZ ms s) ∧ wO C o s i4 ms := by
 have op : ∀ (bx : List Nat), (∀ u ∈ use s o.bu, u ∈ bx) → (∀ ao, dd bx ao s → ∀ cW : aj → Prop, lU C ao o.bu (fun av s1 => cW (fin s1 o.dst av)) → j3 C ao o cW) →
   mK C s o.bu (fun ct av s1 => K (hA s bx o.dst ct av) (fin s1 o.dst av)) → ∃ i4 ms, K i4 (cZ ms s) ∧ wO C o s i4 ms := by
  intro bx na h5 hw
  obtain ⟨ct, av, ms, ab, af, aF⟩ := Mq hw
  obtain ⟨jj, lX, cA⟩ := EL o.dst av
  refine ⟨hA s bx o.dst ct av, ms ++ jj, ?_, ?_, ?_, wP.1, wP.2⟩
  ·rw [j2, ← cA]; exact ab
  ·intro ao aa cW ay
   refine h5 ao aa cW (aF ao (aa.sub na) _ ?_)
   rw [cA, ← j2]; exact ay
  ·intro m hm
   simp only [hA, List.mem_append]
   rcases List.mem_append.1 hm with hm | hm
   ·refine ⟨.inr (af m hm).1, fun v aK => .inl ?_⟩
    obtain ⟨u, hu, kj⟩ := (af m hm).2 v aK
    exact List.mem_flatMap.2 ⟨u, na u hu, kj⟩
   ·exact ⟨.inl (lX m hm).1, fun u hu => .inr (by rw [(lX m hm).2] at hu; exact hu)⟩
 have skip : ∀ t, (∀ ao, dd [t] ao s → ∀ cW : aj → Prop, cW (fin ao o.dst (.tuple [])) → j3 C ao o cW) → K (hA s [t] o.dst [] (.tuple [])) (fin s o.dst (.tuple [])) → ∃ i4 ms, K i4 (cZ ms s) ∧ wO C o s i4 ms := by
  intro t h5 ay
  obtain ⟨jj, lX, cA⟩ := EL o.dst (.tuple [])
  refine ⟨_, jj, by rw [← cA]; exact ay, ?_, ?_, wP.1, wP.2⟩
  ·intro ao aa cW iO
   exact h5 ao aa cW (by rw [cA]; exact iO)
  ·intro m hm
   simp only [hA, List.mem_append]
   exact ⟨.inl (lX m hm).1, fun u hu => by rw [(lX m hm).2] at hu; simp [I.aa] at hu⟩
 unfold lW at h
 split at h
 ·rename_i bO
  exact op _ (fun _ h => h) (fun ao _ cW hw => by unfold j3; rw [bO]; exact hw) h
 ·rename_i t b bO
  split at h
  ·rename_i eO U
   split at h
   ·rename_i e
    refine op (t :: use s o.bu) (fun u hu => by simp [hu]) (fun ao aa cW hw => ?_) h
    have : ao t = s t := aa t (by simp)
    unfold j3
    rw [bO]
    simp only [this, U, if_pos e]
    exact hw
   ·rename_i e
    refine skip t (fun ao aa cW ay => ?_) h
    have : ao t = s t := aa t (by simp)
    unfold j3
    rw [bO]
    simp only [this, U, if_neg e]
    exact ay
  ·rename_i U
   refine skip t (fun ao aa cW ay => ?_) h
   have : ao t = s t := aa t (by simp)
   unfold j3
   rw [bO]
   simp only [this, U]
   exact ay
  ·exact h.elim
def oI (C : bZ) (ros : List cg) : aj → List (Nat × eC × List fK) → Prop
 | _, [] => True
 | s, e :: r => (∃ o, ros[e.1]? = some o ∧ wO C o s e.2.1 e.2.2) ∧ oI C ros (cZ e.2.2 s) r
def mL (s : aj) (r : List (Nat × eC × List fK)) : aj := r.foldl (fun s e => cZ e.2.2 s) s
def lM (a b : List Nat) : Bool := a.all fun x => !b.contains x
theorem rA {a b : List Nat} (h : lM a b = true) : ∀ x ∈ a, x ∉ b := by
 intro x au
 simp only [lM, List.all_eq_true] at h
 simpa using h x au
def pZ (a b : eC) : Bool := lM b.T a.bx && lM b.T a.H && lM b.T a.T && lM a.T b.bx && lM a.T b.H && b.c
theorem Mt {ros : List cg} {s : aj} {a b : Nat × eC × List fK} {r : List (Nat × eC × List fK)} (h : oI C ros s (a :: b :: r)) (ak : pZ a.2.1 b.2.1 = true) :
  oI C ros s (b :: a :: r) ∧ mL s (b :: a :: r) = mL s (a :: b :: r) := by
 obtain ⟨⟨Mu, b7, ad, aT, a3, a4⟩, ⟨Mv, U, kH, h8, lb, bY⟩, aO⟩ := h
 simp only [pZ, Bool.and_eq_true] at ak
 obtain ⟨⟨⟨⟨⟨mj, kC⟩, y6⟩, Mw⟩, y7⟩, y8⟩ := ak
 have AS : ∀ u ∈ b.2.1.bx, cZ a.2.2 s u = s u := by
  intro u hu
  refine Mc _ _ _ (fun m hm e => ?_) (bY y8 u hu)
  exact rA Mw m.x (aT m hm).1 (e ▸ hu)
 have AU : ∀ u ∈ a.2.1.bx, cZ b.2.2 s u = s u := by
  intro u hu
  refine Md _ _ _ fun m hm => ⟨fun e => ?_, fun au => ?_⟩
  ·exact rA mj m.x (h8 m hm).1 (e ▸ hu)
  ·exact rA kC m.x (h8 m hm).1 (a3 u hu _ au)
 have ER : cZ b.2.2 (cZ a.2.2 s) = cZ a.2.2 (cZ b.2.2 s) := by
  refine Mf _ _ _ fun m hm n bl => ⟨fun e => ?_, fun h => ?_, fun h => ?_⟩
  ·exact rA y6 n.x (h8 n bl).1 (e ▸ (aT m hm).1)
  ·exact rA kC n.x (h8 n bl).1 ((aT m hm).2 _ h)
  ·exact rA y7 m.x (aT m hm).1 ((h8 n bl).2 _ h)
 refine ⟨⟨⟨Mv, U, ?_, h8, ?_, ?_⟩, ⟨Mu, b7, ?_, aT, ?_, ?_⟩, ?_⟩, ?_⟩
 ·intro ao aa K ay
  exact kH ao (fun u hu => (aa u hu).trans (AS u hu).symm) K ay
 ·intro u hu x au
  exact lb u hu x (by rw [AS u hu]; exact au)
 ·intro al u hu
  have := bY al u hu
  rwa [AS u hu] at this
 ·intro ao aa K ay
  exact ad ao (fun u hu => (aa u hu).trans (AU u hu)) K ay
 ·intro u hu x au
  rw [AU u hu] at au
  exact a3 u hu x au
 ·intro al u hu
  rw [AU u hu]
  exact a4 al u hu
 ·rw [← ER]; exact aO
 ·simp only [mL, List.foldl_cons]
  rw [ER]
theorem Mx {ros : List cg} {e : Nat × eC × List fK} {post : List (Nat × eC × List fK)} : ∀ (pre : List (Nat × eC × List fK)) (s : aj), oI C ros s (pre ++ e :: post) → (∀ a ∈ pre, pZ a.2.1 e.2.1 = true) →
  oI C ros s (e :: (pre ++ post)) ∧ mL s (e :: (pre ++ post)) = mL s (pre ++ e :: post) := by
 intro pre
 induction pre with
 | nil => intro s h _; exact ⟨h, rfl⟩
 | cons a pre ih =>
   intro s h ak
   obtain ⟨ab, af⟩ := h
   obtain ⟨aY, bs⟩ := ih _ af fun b U => ak b (by simp [U])
   have al : oI C ros s (a :: e :: (pre ++ post)) := ⟨ab, aY⟩
   obtain ⟨bN, b6⟩ := Mt al (ak a (by simp))
   refine ⟨bN, b6.trans ?_⟩
   simp only [mL, List.foldl_cons, List.cons_append] at bs ⊢
   exact bs
end
def tJ : List (List Nat) → List (List Nat) → List (List Nat)
 | done, [] => done
 | done, a :: r => tJ (done ++ [a ++ a.flatMap fun e => (done[e]?).getD []]) r
def rB (fT : List (List Nat)) : List (List Nat) := tJ [] fT
theorem My {fT : List (List Nat)} {l : List Nat} (hl : ∀ u i v, l = u ++ i :: v → ∀ e ∈ (fT[i]?).getD [], e ∈ u) : ∀ (rest pre done : List (List Nat)), fT = pre ++ rest → done.length = pre.length →
  (∀ u i v, l = u ++ i :: v → ∀ e ∈ (done[i]?).getD [], e ∈ u) → ∀ u i v, l = u ++ i :: v → ∀ e ∈ ((tJ done rest)[i]?).getD [], e ∈ u := by
 intro rest
 induction rest with
 | nil => intro pre done _ _ h; exact h
 | cons a rest ih =>
   intro pre done ES hlen h
   simp only [tJ]
   refine ih (pre ++ [a]) _ (by simp [ES]) (by simp [hlen]) ?_
   intro u i v hu e he
   by_cases ak : i < done.length
   ·rw [List.getElem?_append_left ak] at he
    exact h u i v hu e he
   ·rw [List.getElem?_append_right (by omega)] at he
    by_cases pJ : i - done.length = 0
    ·rw [pJ] at he
     simp only [List.getElem?_cons_zero, Option.getD_some, List.mem_append, List.mem_flatMap] at he
     have wQ : (fT[i]?).getD [] = a := by
      have : i = pre.length := by omega
      rw [ES, this, List.getElem?_append_right (Nat.le_refl _)]; simp
     rcases he with he | ⟨ei, lg, he⟩
     ·exact hl u i v hu e (by rw [wQ]; exact he)
     ·have tm := hl u i v hu ei (by rw [wQ]; exact lg)
      obtain ⟨pH, wo, rfl⟩ := List.append_of_mem tm
      have := h pH ei (wo ++ i :: v) (by rw [hu]; simp) e he
      simp [this]
    ·rw [List.getElem?_eq_none (by simp; omega)] at he
     simp at he
theorem Mz {fT : List (List Nat)} {l : List Nat} (hl : ∀ u i v, l = u ++ i :: v → ∀ e ∈ (fT[i]?).getD [], e ∈ u) : ∀ u i v, l = u ++ i :: v → ∀ e ∈ ((rB fT)[i]?).getD [], e ∈ u :=
 My hl fT [] [] rfl rfl fun u i v _ e he => by simp at he
def kO (kP : List (List Nat)) : Nat → List (Nat × eC) → List eC → Bool
 | _, _, [] => true
 | j, es, f :: aw => (es.all fun e => ((kP[j]?).getD []).contains e.1 || pZ e.2 f) && kO kP (j + 1) ((j, f) :: es) aw
def AV (kP : List (List Nat)) (a b : Nat × eC × List fK) : Prop := a.1 ∈ (kP[b.1]?).getD [] ∨ pZ a.2.1 b.2.1 = true
theorem MA {kP : List (List Nat)} : ∀ (f_ : List (Nat × eC × List fK)) (j : Nat) (es : List (Nat × eC)), f_.map (·.1) = (List.range f_.length).map (· + j) → kO kP j es (f_.map (·.2.1)) = true →
  f_.Pairwise (AV kP) ∧ ∀ e ∈ es, ∀ b ∈ f_, e.1 ∈ (kP[b.1]?).getD [] ∨ pZ e.2 b.2.1 = true := by
 intro f_
 induction f_ with
 | nil => intro j es _ _; exact ⟨.nil, fun e _ b U => by cases U⟩
 | cons a f_ ih =>
   intro j es p0 fs
   rw [List.length_cons, List.range_succ_eq_map, List.map_cons, List.map_cons, List.map_map] at p0
   simp only [List.cons.injEq, Nat.zero_add] at p0
   obtain ⟨bS, p0⟩ := p0
   simp only [List.map_cons, kO, Bool.and_eq_true, List.all_eq_true, Bool.or_eq_true] at fs
   obtain ⟨ab, af⟩ := fs
   obtain ⟨aY, bs⟩ := ih (j + 1) _ (by rw [p0]; congr 1; funext x; simp; omega) af
   refine ⟨.cons (fun b U => ?_) aY, fun e he b U => ?_⟩
   ·have := bs (j, a.2.1) (by simp) b U
    simp only [AV, bS]; exact this
   ·rcases List.mem_cons.1 U with rfl | U
    ·rw [bS]
     exact (ab e he).imp (fun h => by simpa using h) id
    ·exact bs e (by simp [he]) b U
section
variable {C : bZ}
theorem MB {K : Option (List eC) → aj → Prop} : ∀ (os pre : List cg) (s : aj) (acc : List eC), cb C s os (some acc) K →
  ∃ f_, oI C (pre ++ os) s f_ ∧ f_.map (·.1) = (List.range os.length).map (· + pre.length) ∧ K (some ((f_.map (·.2.1)).reverse ++ acc)) (mL s f_) := by
 intro os
 induction os with
 | nil => intro pre s acc h; exact ⟨[], trivial, rfl, h⟩
 | cons o os ih =>
   intro pre s acc h
   obtain ⟨i4, ms, ab, af⟩ := Ms h
   obtain ⟨f_, aY, bs, b_⟩ := ih (pre ++ [o]) _ (i4 :: acc) ab
   refine ⟨(pre.length, i4, ms) :: f_, ⟨⟨o, ?_, af⟩, ?_⟩, ?_, ?_⟩
   ·rw [List.getElem?_append_right (Nat.le_refl _)]; simp
   ·simpa using aY
   ·rw [List.length_cons, List.range_succ_eq_map, List.map_cons, List.map_cons, List.map_map, bs]
    simp only [List.cons.injEq, Nat.zero_add, true_and]
    congr 1; funext x; simp; omega
   ·simpa [mL] using b_
theorem MC {ros : List cg} {kP : List (List Nat)} {K : aj → Prop} : ∀ (l : List Nat) (f_ : List (Nat × eC × List fK)) (s : aj), oI C ros s f_ → f_.Pairwise (AV kP) → l.Nodup → (f_.map (·.1)).Nodup →
  (∀ i, i ∈ l ↔ i ∈ f_.map (·.1)) → (∀ u i v, l = u ++ i :: v → ∀ e ∈ (kP[i]?).getD [], e ∈ f_.map (·.1) → e ∈ u) → K (mL s f_) → iq C ros s l K := by
 intro l
 induction l with
 | nil =>
   intro f_ s _ _ _ _ hm _ ay
   cases f_ with
   | nil => exact ay
   | cons e f_ => have := (hm e.1).2 (by simp); cases this
 | cons i l ih =>
   intro f_ s al an bl td hm bU ay
   obtain ⟨e, he, ak⟩ := List.mem_map.1 ((hm i).1 (by simp))
   obtain ⟨pre, post, rfl⟩ := List.append_of_mem he
   have MD : ∀ a ∈ pre, pZ a.2.1 e.2.1 = true := by
    intro a b7
    have aO := (List.pairwise_append.1 an).2.2 a b7 e (by simp)
    rcases aO with aO | aO
    ·rw [ak] at aO
     have := bU [] i l rfl a.1 aO (by simp only [List.map_append, List.mem_append, List.mem_map]; exact .inl ⟨a, b7, rfl⟩)
     cases this
    ·exact aO
   obtain ⟨aY, bs⟩ := Mx pre s al MD
   obtain ⟨⟨o, ME, wR⟩, b_⟩ := aY
   have ET : i ∉ (pre ++ post).map (·.1) := by
    have : (pre.map (·.1) ++ e.1 :: post.map (·.1)).Nodup := by simpa using td
    have bq := (List.perm_middle.nodup_iff.1 this)
    rw [List.nodup_cons] at bq
    rw [← ak]; simpa using bq.1
   simp only [iq]
   rw [← ak, ME]
   refine wR.1 s (fun _ _ => rfl) _ ?_
   rw [List.nodup_cons] at bl
   refine ih (pre ++ post) _ b_ ?_ bl.2 ?_ ?_ ?_ ?_
   ·exact an.sublist ((List.Sublist.refl pre).append (List.sublist_cons_self e post))
   ·have : (pre.map (·.1) ++ e.1 :: post.map (·.1)).Nodup := by simpa using td
    have bq := (List.perm_middle.nodup_iff.1 this)
    rw [List.nodup_cons] at bq
    simpa using bq.2
   ·intro j
    constructor
    ·intro bS
     have ab := (hm j).1 (by simp [bS])
     simp only [List.map_append, List.map_cons, List.mem_append, List.mem_cons] at ab ⊢
     rcases ab with ab | rfl | ab
     ·exact .inl ab
     ·exact (bl.1 (ak ▸ bS)).elim
     ·exact .inr ab
    ·intro bS
     have ab := (hm j).2 (by
      simp only [List.map_append, List.map_cons, List.mem_append, List.mem_cons] at bS ⊢
      exact bS.imp id .inr)
     rcases List.mem_cons.1 ab with rfl | ab
     ·exact (ET bS).elim
     ·exact ab
   ·intro u j v hu x au AW
    have ab := bU (i :: u) j v (by rw [hu]; rfl) x au (by
     simp only [List.map_append, List.map_cons, List.mem_append, List.mem_cons] at AW ⊢
     exact AW.imp id .inr)
    rcases List.mem_cons.1 ab with rfl | ab
    ·exact (ET AW).elim
    ·exact ab
   ·have : mL s (e :: (pre ++ post)) = mL (cZ e.2.2 s) (pre ++ post) := rfl
    rw [← this, bs]; exact ay
theorem MF {ros : List cg} {fT : List (List Nat)} {s : aj} {K : aj → Prop} (hlen : fT.length = ros.length)
  (h : cb C s ros (some []) (fun acc s => kO (rB fT) 0 [] (acc.getD []).reverse = true ∧ K s)) : ∀ l, Aw fT l → iq C ros s l K := by
 intro l ⟨gE, l2, tp⟩
 obtain ⟨f_, aY, bs, b_, dq⟩ := MB ros [] s [] h
 simp only [List.nil_append, List.append_nil, List.length_nil, Option.getD_some, List.reverse_reverse] at aY bs b_
 have hl : f_.length = ros.length := by have := congrArg List.length bs; simpa using this
 have p0 : f_.map (·.1) = (List.range f_.length).map (· + 0) := by rw [bs, hl]
 have aO : f_.map (·.1) = List.range ros.length := by rw [bs]; simp
 obtain ⟨fo, _⟩ := MA f_ 0 [] p0 b_
 refine MC l f_ s aY fo gE (by rw [aO]; exact List.nodup_range) (fun i => ?_) (fun u i v hu e he _ => Mz tp u i v hu e he) dq
 rw [aO, l2, hlen, List.mem_range]
end
def c9 (C : bZ) (dst : Option Nat) (os : List cg) (K : Option (List eC) → aj → Prop) : Option (I × aj) → Prop
 | some (av, s1) => cb C (fin s1 dst av) os none K
 | none => False
def c_ (C : bZ) (l : List (Nat × I)) (bx ct : List Nat) (dst : Option Nat) (os : List cg) (a : List eC) (K : Option (List eC) → aj → Prop) : Option (I × aj) → Prop
 | some (av, s1) => cb C (fin s1 dst av) os (some (hA (R l) bx dst ct av :: a)) K
 | none => False
def ca (C : bZ) (l : List (Nat × I)) (dst : Option Nat) (bu : eX) (t : Nat) (b : Bool) (os : List cg) (acc : Option (List eC)) (K : Option (List eC) → aj → Prop) : I → Prop
 | .bool eO => if eO = b then mK C (R l) bu (fun ct av s1 => cb C (fin s1 dst av) os (nS acc (hA (R l) (t :: use (R l) bu) dst ct av)) K) else cb C (fin (R l) dst (.tuple [])) os (nS acc (hA (R l) [t] dst [] (.tuple []))) K
 | .tuple [] => cb C (fin (R l) dst (.tuple [])) os (nS acc (hA (R l) [t] dst [] (.tuple []))) K
 | _ => False
section
variable {C : bZ} {l : List (Nat × I)} {os : List cg} {K : Option (List eC) → aj → Prop} {dst : Option Nat} {a : List eC} {acc : Option (List eC)}
theorem wS {s : aj} {bu : eX} {K : List Nat → I → aj → Prop} (bl : bu.pX = false) : mK C s bu K = (match bH C s bu with
  | some (av, s1) => K (c1 s bu) av s1
  | none => False) := by
 apply propext
 constructor
 ·intro h
  cases bu <;> first
   | (simp [eX.pX] at bl; done)
   | (obtain ⟨av, s1, ab, af⟩ := h; rw [ab]; exact af)
 ·intro h
  split at h
  ·rename_i av s1 he
   cases bu <;> first
    | (simp [eX.pX] at bl; done)
    | exact ⟨av, s1, he, h⟩
  ·exact h.elim
theorem EU : cb C (R l) [] acc K = K acc (R l) := rfl
theorem ib {bu : eX} (bl : bu.pX = false) : cb C (R l) (⟨dst, bu, none⟩ :: os) none K = c9 C dst os K (bH C (R l) bu) := by
 simp only [cb, lW, nS]
 rw [wS bl]
 cases bH C (R l) bu with
 | none => rfl
 | some p => rfl
theorem ic {bu : eX} (bl : bu.pX = false) : cb C (R l) (⟨dst, bu, none⟩ :: os) (some a) K = c_ C l (use (R l) bu) (c1 (R l) bu) dst os a K (bH C (R l) bu) := by
 simp only [cb, lW, nS]
 rw [wS bl]
 cases bH C (R l) bu with
 | none => rfl
 | some p => rfl
theorem EV {bu : eX} {t : Nat} {b : Bool} : cb C (R l) (⟨dst, bu, some (t, b)⟩ :: os) acc K = ca C l dst bu t b os acc K (R l t) := by
 simp only [cb, lW]
 generalize R l t = v
 cases v <;> first | rfl | (rename_i vs; cases vs <;> rfl)
theorem eH {bu : eX} {t : Nat} {b : Bool} (bl : bu.pX = false) : ca C l dst bu t b os none K (.bool b) = c9 C dst os K (bH C (R l) bu) := by
 simp only [ca, if_true]
 rw [wS bl]
 cases bH C (R l) bu with
 | none => rfl
 | some p => rfl
theorem eI {bu : eX} {t : Nat} {b : Bool} (bl : bu.pX = false) : ca C l dst bu t b os (some a) K (.bool b) = c_ C l (t :: use (R l) bu) (c1 (R l) bu) dst os a K (bH C (R l) bu) := by
 simp only [ca, if_true]
 rw [wS bl]
 cases bH C (R l) bu with
 | none => rfl
 | some p => rfl
theorem MG {bu : eX} {t : Nat} : ca C l dst bu t true os none K (.bool false) = cb C (fin (R l) dst (.tuple [])) os none K ∧ ca C l dst bu t false os none K (.bool true) = cb C (fin (R l) dst (.tuple [])) os none K ∧
  (∀ b, ca C l dst bu t b os none K (.tuple []) = cb C (fin (R l) dst (.tuple [])) os none K) := ⟨rfl, rfl, fun _ => rfl⟩
theorem MH {bu : eX} {t : Nat} : ca C l dst bu t true os (some a) K (.bool false) = cb C (fin (R l) dst (.tuple [])) os (some (hA (R l) [t] dst [] (.tuple []) :: a)) K ∧
  ca C l dst bu t false os (some a) K (.bool true) = cb C (fin (R l) dst (.tuple [])) os (some (hA (R l) [t] dst [] (.tuple []) :: a)) K ∧
  (∀ b, ca C l dst bu t b os (some a) K (.tuple []) = cb C (fin (R l) dst (.tuple [])) os (some (hA (R l) [t] dst [] (.tuple []) :: a)) K) := ⟨rfl, rfl, fun _ => rfl⟩
theorem MI (av : I) (s1 : aj) : c9 C dst os K (some (av, s1)) = cb C (fin s1 dst av) os none K := rfl
theorem MJ (bx ct : List Nat) (av : I) (s1 : aj) : c_ C l bx ct dst os a K (some (av, s1)) = cb C (fin s1 dst av) os (some (hA (R l) bx dst ct av :: a)) K := rfl
def hW (s : aj) : I → Option (I × aj)
 | .h y q => ct s (.h y q)
 | d => some (d, s)
def oJ (s : aj) : I → I → I → Option (I × aj)
 | .bool eO, x, y => some (if eO then x else y, s)
 | _, _, _ => none
def cy (s : aj) : Option I → Option (I × aj)
 | some d => some (d, s)
 | none => none
def dT : Option aj → Option (I × aj)
 | some s1 => some (.hole, s1)
 | none => none
def g4 (s : aj) : List aA → List I
 | [] => []
 | x :: xs => aG s x :: g4 s xs
def iQ (s : aj) : List (Nat × aA) → List (Nat × I)
 | [] => []
 | (k, x) :: xs => (k, aG s x) :: iQ s xs
def jL (s : aj) : Option aA → Option I
 | none => none
 | some x => some (aG s x)
theorem lY (s : aj) (x : Option I) : (x.map fun d => (d, s)) = cy s x := by cases x <;> rfl
theorem MK (x : Option aj) : (x.map fun s1 => (I.hole, s1)) = dT x := by cases x <;> rfl
theorem tK (s : aj) : ∀ xs : List aA, xs.map (aG s) = g4 s xs
 | [] => rfl
 | x :: xs => by simp only [List.map_cons, g4, tK s xs]
theorem AX (s : aj) : ∀ xs : List (Nat × aA), (xs.map fun p => (p.1, aG s p.2)) = iQ s xs
 | [] => rfl
 | (k, x) :: xs => by simp only [List.map_cons, iQ, AX s xs]
theorem ML (s : aj) (x : Option aA) : x.map (aG s) = jL s x := by cases x <;> rfl
theorem rC (x : aA) : bH C (R l) (.ag x) = some (aG (R l) x, R l) := by
 rfl
theorem rD (x : aA) : bH C (R l) (.ai x) = hW (R l) (aG (R l) x) := by
 simp only [bH]; cases aG (R l) x <;> rfl
theorem rE (c x y : aA) : bH C (R l) (.pick c x y) = oJ (R l) (aG (R l) c) (aG (R l) x) (aG (R l) y) := by
 simp only [bH]; cases aG (R l) c <;> first | rfl | (rename_i b; cases b <;> rfl)
theorem rF (T : TypeId) : bH C (R l) (.dS T) = cy (R l) (dS C T) := by
 simp only [bH, lY]
theorem rG (T : TypeId) (x : aA) : bH C (R l) (.di T x) = di (R l) (aG (R l) x) := by
 rfl
theorem rH (T : TypeId) (ps : List (Nat × aA)) : bH C (R l) (.eQ T ps) = eQ C (R l) T (iQ (R l) ps) := by
 simp only [bH, AX]
theorem rI (T : TypeId) (n : Nat) (ps : List (Nat × aA)) : bH C (R l) (.dN T n ps) = dN C (R l) T n (iQ (R l) ps) := by
 simp only [bH, AX]
theorem rJ (T : TypeId) (x : aA) : bH C (R l) (.aM T x) = cy (R l) (aM C (R l) T (aG (R l) x)) := by
 simp only [bH, lY]
theorem rK (T : TypeId) (x y : aA) : bH C (R l) (.cP T x y) = dT (cP C (R l) T (aG (R l) x) (aG (R l) y)) := by
 simp only [bH, MK]
theorem rL (x : aA) : bH C (R l) (.dz x) = cy (R l) (dz (R l) (aG (R l) x)) := by
 simp only [bH, lY]
theorem rM (op : BinOp) (T : TypeId) (x y : aA) : bH C (R l) (.aB op T x y) = cy (R l) (aB C (R l) op T (aG (R l) x) (aG (R l) y)) := by
 simp only [bH, lY]
theorem rN (op : UnOp) (x : aA) : bH C (R l) (.un op x) = cy (R l) (un op (aG (R l) x)) := by
 simp only [bH, lY]
theorem rO (A B : TypeId) (x : aA) : bH C (R l) (.eP A B x) = cy (R l) (eP C (R l) A B (aG (R l) x)) := by
 simp only [bH, lY]
theorem rP (f : FuncId) (cs : List aA) : bH C (R l) (.hd f cs) = some (.fn f (g4 (R l) cs), R l) := by
 simp only [bH, tK]
theorem rQ (T : TypeId) (x y : aA) : bH C (R l) (.eG T x y) = cy (R l) (eG C T (aG (R l) x) (aG (R l) y)) := by
 simp only [bH, lY]
theorem rR (T : TypeId) (x : aA) (cF ak : Option aA) : bH C (R l) (.ed T x cF ak) = ed C (R l) T (aG (R l) x) (jL (R l) cF) (jL (R l) ak) := by
 simp only [bH, ML]
theorem rS (T : TypeId) (x : aA) (k : Nat) : bH C (R l) (.bc T x k) = cy (R l) (bc C (R l) T (aG (R l) x) k) := by
 simp only [bH, lY]
theorem rT (T : TypeId) (x y : aA) : bH C (R l) (.bX T x y) = cy (R l) (bX C (R l) T (aG (R l) x) (aG (R l) y)) := by
 simp only [bH, lY]
theorem rU (T : TypeId) (x y : aA) : bH C (R l) (.idx T x y) = cy (R l) (idx C T (aG (R l) x) (aG (R l) y)) := by
 simp only [bH, lY]
theorem rV (x : aA) (k : Nat) : bH C (R l) (.ex x k) = cy (R l) (ex (R l) (aG (R l) x) k) := by
 simp only [bH, lY]
theorem rW (T : TypeId) (x : aA) : bH C (R l) (.len T x) = cy (R l) (kl C (R l) T (aG (R l) x)) := by
 simp only [bH, lY]
theorem rX (T bx : TypeId) (x y : aA) : bH C (R l) (.app T bx x y) = kn C (R l) T bx (aG (R l) x) (aG (R l) y) := by
 rfl
theorem MM :
  (∀ (x : aA) , cb C (R l) (⟨dst, .ag x, none⟩ :: os) none K = c9 C dst os K (some (aG (R l) x, R l))) ∧
  (∀ (x : aA) , cb C (R l) (⟨dst, .ai x, none⟩ :: os) none K = c9 C dst os K (hW (R l) (aG (R l) x))) ∧
  (∀ (c x y : aA) , cb C (R l) (⟨dst, .pick c x y, none⟩ :: os) none K = c9 C dst os K (oJ (R l) (aG (R l) c) (aG (R l) x) (aG (R l) y))) ∧
  (∀ (T : TypeId) , cb C (R l) (⟨dst, .dS T, none⟩ :: os) none K = c9 C dst os K (cy (R l) (dS C T))) ∧
  (∀ (T : TypeId) (x : aA) , cb C (R l) (⟨dst, .di T x, none⟩ :: os) none K = c9 C dst os K (di (R l) (aG (R l) x))) ∧
  (∀ (T : TypeId) (ps : List (Nat × aA)) , cb C (R l) (⟨dst, .eQ T ps, none⟩ :: os) none K = c9 C dst os K (eQ C (R l) T (iQ (R l) ps))) ∧
  (∀ (T : TypeId) (n : Nat) (ps : List (Nat × aA)) , cb C (R l) (⟨dst, .dN T n ps, none⟩ :: os) none K = c9 C dst os K (dN C (R l) T n (iQ (R l) ps))) ∧
  (∀ (T : TypeId) (x : aA) , cb C (R l) (⟨dst, .aM T x, none⟩ :: os) none K = c9 C dst os K (cy (R l) (aM C (R l) T (aG (R l) x)))) ∧
  (∀ (T : TypeId) (x y : aA) , cb C (R l) (⟨dst, .cP T x y, none⟩ :: os) none K = c9 C dst os K (dT (cP C (R l) T (aG (R l) x) (aG (R l) y)))) ∧
  (∀ (x : aA) , cb C (R l) (⟨dst, .dz x, none⟩ :: os) none K = c9 C dst os K (cy (R l) (dz (R l) (aG (R l) x)))) ∧
  (∀ (op : BinOp) (T : TypeId) (x y : aA) , cb C (R l) (⟨dst, .aB op T x y, none⟩ :: os) none K = c9 C dst os K (cy (R l) (aB C (R l) op T (aG (R l) x) (aG (R l) y)))) ∧
  (∀ (op : UnOp) (x : aA) , cb C (R l) (⟨dst, .un op x, none⟩ :: os) none K = c9 C dst os K (cy (R l) (un op (aG (R l) x)))) ∧
  (∀ (A B : TypeId) (x : aA) , cb C (R l) (⟨dst, .eP A B x, none⟩ :: os) none K = c9 C dst os K (cy (R l) (eP C (R l) A B (aG (R l) x)))) ∧
  (∀ (f : FuncId) (cs : List aA) , cb C (R l) (⟨dst, .hd f cs, none⟩ :: os) none K = c9 C dst os K (some (.fn f (g4 (R l) cs), R l))) ∧
  (∀ (T : TypeId) (x y : aA) , cb C (R l) (⟨dst, .eG T x y, none⟩ :: os) none K = c9 C dst os K (cy (R l) (eG C T (aG (R l) x) (aG (R l) y)))) ∧
  (∀ (T : TypeId) (x : aA) (cF ak : Option aA) , cb C (R l) (⟨dst, .ed T x cF ak, none⟩ :: os) none K = c9 C dst os K (ed C (R l) T (aG (R l) x) (jL (R l) cF) (jL (R l) ak))) ∧
  (∀ (T : TypeId) (x : aA) (k : Nat) , cb C (R l) (⟨dst, .bc T x k, none⟩ :: os) none K = c9 C dst os K (cy (R l) (bc C (R l) T (aG (R l) x) k))) ∧
  (∀ (T : TypeId) (x y : aA) , cb C (R l) (⟨dst, .bX T x y, none⟩ :: os) none K = c9 C dst os K (cy (R l) (bX C (R l) T (aG (R l) x) (aG (R l) y)))) ∧
  (∀ (T : TypeId) (x y : aA) , cb C (R l) (⟨dst, .idx T x y, none⟩ :: os) none K = c9 C dst os K (cy (R l) (idx C T (aG (R l) x) (aG (R l) y)))) ∧
  (∀ (x : aA) (k : Nat) , cb C (R l) (⟨dst, .ex x k, none⟩ :: os) none K = c9 C dst os K (cy (R l) (ex (R l) (aG (R l) x) k))) ∧
  (∀ (T : TypeId) (x : aA) , cb C (R l) (⟨dst, .len T x, none⟩ :: os) none K = c9 C dst os K (cy (R l) (kl C (R l) T (aG (R l) x)))) ∧
  (∀ (T bx : TypeId) (x y : aA) , cb C (R l) (⟨dst, .app T bx x y, none⟩ :: os) none K = c9 C dst os K (kn C (R l) T bx (aG (R l) x) (aG (R l) y))) :=
 ⟨fun x => (ib rfl).trans (congrArg _ (rC x)), fun x => (ib rfl).trans (congrArg _ (rD x)), fun c x y => (ib rfl).trans (congrArg _ (rE c x y)), fun T => (ib rfl).trans (congrArg _ (rF T)), fun T x => (ib rfl).trans (congrArg _ (rG T x)), fun T ps => (ib rfl).trans (congrArg _ (rH T ps)), fun T n ps => (ib rfl).trans (congrArg _ (rI T n ps)), fun T x => (ib rfl).trans (congrArg _ (rJ T x)), fun T x y => (ib rfl).trans (congrArg _ (rK T x y)), fun x => (ib rfl).trans (congrArg _ (rL x)), fun op T x y => (ib rfl).trans (congrArg _ (rM op T x y)), fun op x => (ib rfl).trans (congrArg _ (rN op x)), fun A B x => (ib rfl).trans (congrArg _ (rO A B x)), fun f cs => (ib rfl).trans (congrArg _ (rP f cs)), fun T x y => (ib rfl).trans (congrArg _ (rQ T x y)), fun T x cF ak => (ib rfl).trans (congrArg _ (rR T x cF ak)), fun T x k => (ib rfl).trans (congrArg _ (rS T x k)), fun T x y => (ib rfl).trans (congrArg _ (rT T x y)), fun T x y => (ib rfl).trans (congrArg _ (rU T x y)), fun x k => (ib rfl).trans (congrArg _ (rV x k)), fun T x => (ib rfl).trans (congrArg _ (rW T x)), fun T bx x y => (ib rfl).trans (congrArg _ (rX T bx x y))⟩
theorem MN :
  (∀ (x : aA) , cb C (R l) (⟨dst, .ag x, none⟩ :: os) (some a) K = c_ C l (use (R l) (.ag x)) (c1 (R l) (.ag x)) dst os a K (some (aG (R l) x, R l))) ∧
  (∀ (x : aA) , cb C (R l) (⟨dst, .ai x, none⟩ :: os) (some a) K = c_ C l (use (R l) (.ai x)) (c1 (R l) (.ai x)) dst os a K (hW (R l) (aG (R l) x))) ∧
  (∀ (c x y : aA) , cb C (R l) (⟨dst, .pick c x y, none⟩ :: os) (some a) K = c_ C l (use (R l) (.pick c x y)) (c1 (R l) (.pick c x y)) dst os a K (oJ (R l) (aG (R l) c) (aG (R l) x) (aG (R l) y))) ∧
  (∀ (T : TypeId) , cb C (R l) (⟨dst, .dS T, none⟩ :: os) (some a) K = c_ C l (use (R l) (.dS T)) (c1 (R l) (.dS T)) dst os a K (cy (R l) (dS C T))) ∧
  (∀ (T : TypeId) (x : aA) , cb C (R l) (⟨dst, .di T x, none⟩ :: os) (some a) K = c_ C l (use (R l) (.di T x)) (c1 (R l) (.di T x)) dst os a K (di (R l) (aG (R l) x))) ∧
  (∀ (T : TypeId) (ps : List (Nat × aA)) , cb C (R l) (⟨dst, .eQ T ps, none⟩ :: os) (some a) K = c_ C l (use (R l) (.eQ T ps)) (c1 (R l) (.eQ T ps)) dst os a K (eQ C (R l) T (iQ (R l) ps))) ∧
  (∀ (T : TypeId) (n : Nat) (ps : List (Nat × aA)) , cb C (R l) (⟨dst, .dN T n ps, none⟩ :: os) (some a) K = c_ C l (use (R l) (.dN T n ps)) (c1 (R l) (.dN T n ps)) dst os a K (dN C (R l) T n (iQ (R l) ps))) ∧
  (∀ (T : TypeId) (x : aA) , cb C (R l) (⟨dst, .aM T x, none⟩ :: os) (some a) K = c_ C l (use (R l) (.aM T x)) (c1 (R l) (.aM T x)) dst os a K (cy (R l) (aM C (R l) T (aG (R l) x)))) ∧
  (∀ (T : TypeId) (x y : aA) , cb C (R l) (⟨dst, .cP T x y, none⟩ :: os) (some a) K = c_ C l (use (R l) (.cP T x y)) (c1 (R l) (.cP T x y)) dst os a K (dT (cP C (R l) T (aG (R l) x) (aG (R l) y)))) ∧
  (∀ (x : aA) , cb C (R l) (⟨dst, .dz x, none⟩ :: os) (some a) K = c_ C l (use (R l) (.dz x)) (c1 (R l) (.dz x)) dst os a K (cy (R l) (dz (R l) (aG (R l) x)))) ∧
  (∀ (op : BinOp) (T : TypeId) (x y : aA) , cb C (R l) (⟨dst, .aB op T x y, none⟩ :: os) (some a) K = c_ C l (use (R l) (.aB op T x y)) (c1 (R l) (.aB op T x y)) dst os a K (cy (R l) (aB C (R l) op T (aG (R l) x) (aG (R l) y)))) ∧
  (∀ (op : UnOp) (x : aA) , cb C (R l) (⟨dst, .un op x, none⟩ :: os) (some a) K = c_ C l (use (R l) (.un op x)) (c1 (R l) (.un op x)) dst os a K (cy (R l) (un op (aG (R l) x)))) ∧
  (∀ (A B : TypeId) (x : aA) , cb C (R l) (⟨dst, .eP A B x, none⟩ :: os) (some a) K = c_ C l (use (R l) (.eP A B x)) (c1 (R l) (.eP A B x)) dst os a K (cy (R l) (eP C (R l) A B (aG (R l) x)))) ∧
  (∀ (f : FuncId) (cs : List aA) , cb C (R l) (⟨dst, .hd f cs, none⟩ :: os) (some a) K = c_ C l (use (R l) (.hd f cs)) (c1 (R l) (.hd f cs)) dst os a K (some (.fn f (g4 (R l) cs), R l))) ∧
  (∀ (T : TypeId) (x y : aA) , cb C (R l) (⟨dst, .eG T x y, none⟩ :: os) (some a) K = c_ C l (use (R l) (.eG T x y)) (c1 (R l) (.eG T x y)) dst os a K (cy (R l) (eG C T (aG (R l) x) (aG (R l) y)))) ∧
  (∀ (T : TypeId) (x : aA) (cF ak : Option aA) , cb C (R l) (⟨dst, .ed T x cF ak, none⟩ :: os) (some a) K = c_ C l (use (R l) (.ed T x cF ak)) (c1 (R l) (.ed T x cF ak)) dst os a K (ed C (R l) T (aG (R l) x) (jL (R l) cF) (jL (R l) ak))) ∧
  (∀ (T : TypeId) (x : aA) (k : Nat) , cb C (R l) (⟨dst, .bc T x k, none⟩ :: os) (some a) K = c_ C l (use (R l) (.bc T x k)) (c1 (R l) (.bc T x k)) dst os a K (cy (R l) (bc C (R l) T (aG (R l) x) k))) ∧
  (∀ (T : TypeId) (x y : aA) , cb C (R l) (⟨dst, .bX T x y, none⟩ :: os) (some a) K = c_ C l (use (R l) (.bX T x y)) (c1 (R l) (.bX T x y)) dst os a K (cy (R l) (bX C (R l) T (aG (R l) x) (aG (R l) y)))) ∧
  (∀ (T : TypeId) (x y : aA) , cb C (R l) (⟨dst, .idx T x y, none⟩ :: os) (some a) K = c_ C l (use (R l) (.idx T x y)) (c1 (R l) (.idx T x y)) dst os a K (cy (R l) (idx C T (aG (R l) x) (aG (R l) y)))) ∧
  (∀ (x : aA) (k : Nat) , cb C (R l) (⟨dst, .ex x k, none⟩ :: os) (some a) K = c_ C l (use (R l) (.ex x k)) (c1 (R l) (.ex x k)) dst os a K (cy (R l) (ex (R l) (aG (R l) x) k))) ∧
  (∀ (T : TypeId) (x : aA) , cb C (R l) (⟨dst, .len T x, none⟩ :: os) (some a) K = c_ C l (use (R l) (.len T x)) (c1 (R l) (.len T x)) dst os a K (cy (R l) (kl C (R l) T (aG (R l) x)))) ∧
  (∀ (T bx : TypeId) (x y : aA) , cb C (R l) (⟨dst, .app T bx x y, none⟩ :: os) (some a) K = c_ C l (use (R l) (.app T bx x y)) (c1 (R l) (.app T bx x y)) dst os a K (kn C (R l) T bx (aG (R l) x) (aG (R l) y))) :=
 ⟨fun x => (ic rfl).trans (congrArg _ (rC x)), fun x => (ic rfl).trans (congrArg _ (rD x)), fun c x y => (ic rfl).trans (congrArg _ (rE c x y)), fun T => (ic rfl).trans (congrArg _ (rF T)), fun T x => (ic rfl).trans (congrArg _ (rG T x)), fun T ps => (ic rfl).trans (congrArg _ (rH T ps)), fun T n ps => (ic rfl).trans (congrArg _ (rI T n ps)), fun T x => (ic rfl).trans (congrArg _ (rJ T x)), fun T x y => (ic rfl).trans (congrArg _ (rK T x y)), fun x => (ic rfl).trans (congrArg _ (rL x)), fun op T x y => (ic rfl).trans (congrArg _ (rM op T x y)), fun op x => (ic rfl).trans (congrArg _ (rN op x)), fun A B x => (ic rfl).trans (congrArg _ (rO A B x)), fun f cs => (ic rfl).trans (congrArg _ (rP f cs)), fun T x y => (ic rfl).trans (congrArg _ (rQ T x y)), fun T x cF ak => (ic rfl).trans (congrArg _ (rR T x cF ak)), fun T x k => (ic rfl).trans (congrArg _ (rS T x k)), fun T x y => (ic rfl).trans (congrArg _ (rT T x y)), fun T x y => (ic rfl).trans (congrArg _ (rU T x y)), fun x k => (ic rfl).trans (congrArg _ (rV x k)), fun T x => (ic rfl).trans (congrArg _ (rW T x)), fun T bx x y => (ic rfl).trans (congrArg _ (rX T bx x y))⟩
theorem MO :
  (∀ (x : aA) (t : Nat), ca C l dst (.ag x) t true os none K (.bool true) = c9 C dst os K (some (aG (R l) x, R l))) ∧
  (∀ (x : aA) (t : Nat), ca C l dst (.ag x) t false os none K (.bool false) = c9 C dst os K (some (aG (R l) x, R l))) ∧
  (∀ (x : aA) (t : Nat), ca C l dst (.ai x) t true os none K (.bool true) = c9 C dst os K (hW (R l) (aG (R l) x))) ∧
  (∀ (x : aA) (t : Nat), ca C l dst (.ai x) t false os none K (.bool false) = c9 C dst os K (hW (R l) (aG (R l) x))) ∧
  (∀ (c x y : aA) (t : Nat), ca C l dst (.pick c x y) t true os none K (.bool true) = c9 C dst os K (oJ (R l) (aG (R l) c) (aG (R l) x) (aG (R l) y))) ∧
  (∀ (c x y : aA) (t : Nat), ca C l dst (.pick c x y) t false os none K (.bool false) = c9 C dst os K (oJ (R l) (aG (R l) c) (aG (R l) x) (aG (R l) y))) ∧
  (∀ (T : TypeId) (t : Nat), ca C l dst (.dS T) t true os none K (.bool true) = c9 C dst os K (cy (R l) (dS C T))) ∧
  (∀ (T : TypeId) (t : Nat), ca C l dst (.dS T) t false os none K (.bool false) = c9 C dst os K (cy (R l) (dS C T))) ∧
  (∀ (T : TypeId) (x : aA) (t : Nat), ca C l dst (.di T x) t true os none K (.bool true) = c9 C dst os K (di (R l) (aG (R l) x))) ∧
  (∀ (T : TypeId) (x : aA) (t : Nat), ca C l dst (.di T x) t false os none K (.bool false) = c9 C dst os K (di (R l) (aG (R l) x))) ∧
  (∀ (T : TypeId) (ps : List (Nat × aA)) (t : Nat), ca C l dst (.eQ T ps) t true os none K (.bool true) = c9 C dst os K (eQ C (R l) T (iQ (R l) ps))) ∧
  (∀ (T : TypeId) (ps : List (Nat × aA)) (t : Nat), ca C l dst (.eQ T ps) t false os none K (.bool false) = c9 C dst os K (eQ C (R l) T (iQ (R l) ps))) ∧
  (∀ (T : TypeId) (n : Nat) (ps : List (Nat × aA)) (t : Nat), ca C l dst (.dN T n ps) t true os none K (.bool true) = c9 C dst os K (dN C (R l) T n (iQ (R l) ps))) ∧
  (∀ (T : TypeId) (n : Nat) (ps : List (Nat × aA)) (t : Nat), ca C l dst (.dN T n ps) t false os none K (.bool false) = c9 C dst os K (dN C (R l) T n (iQ (R l) ps))) ∧
  (∀ (T : TypeId) (x : aA) (t : Nat), ca C l dst (.aM T x) t true os none K (.bool true) = c9 C dst os K (cy (R l) (aM C (R l) T (aG (R l) x)))) ∧
  (∀ (T : TypeId) (x : aA) (t : Nat), ca C l dst (.aM T x) t false os none K (.bool false) = c9 C dst os K (cy (R l) (aM C (R l) T (aG (R l) x)))) ∧
  (∀ (T : TypeId) (x y : aA) (t : Nat), ca C l dst (.cP T x y) t true os none K (.bool true) = c9 C dst os K (dT (cP C (R l) T (aG (R l) x) (aG (R l) y)))) ∧
  (∀ (T : TypeId) (x y : aA) (t : Nat), ca C l dst (.cP T x y) t false os none K (.bool false) = c9 C dst os K (dT (cP C (R l) T (aG (R l) x) (aG (R l) y)))) ∧
  (∀ (x : aA) (t : Nat), ca C l dst (.dz x) t true os none K (.bool true) = c9 C dst os K (cy (R l) (dz (R l) (aG (R l) x)))) ∧
  (∀ (x : aA) (t : Nat), ca C l dst (.dz x) t false os none K (.bool false) = c9 C dst os K (cy (R l) (dz (R l) (aG (R l) x)))) ∧
  (∀ (op : BinOp) (T : TypeId) (x y : aA) (t : Nat), ca C l dst (.aB op T x y) t true os none K (.bool true) = c9 C dst os K (cy (R l) (aB C (R l) op T (aG (R l) x) (aG (R l) y)))) ∧
  (∀ (op : BinOp) (T : TypeId) (x y : aA) (t : Nat), ca C l dst (.aB op T x y) t false os none K (.bool false) = c9 C dst os K (cy (R l) (aB C (R l) op T (aG (R l) x) (aG (R l) y)))) ∧
  (∀ (op : UnOp) (x : aA) (t : Nat), ca C l dst (.un op x) t true os none K (.bool true) = c9 C dst os K (cy (R l) (un op (aG (R l) x)))) ∧
  (∀ (op : UnOp) (x : aA) (t : Nat), ca C l dst (.un op x) t false os none K (.bool false) = c9 C dst os K (cy (R l) (un op (aG (R l) x)))) ∧
  (∀ (A B : TypeId) (x : aA) (t : Nat), ca C l dst (.eP A B x) t true os none K (.bool true) = c9 C dst os K (cy (R l) (eP C (R l) A B (aG (R l) x)))) ∧
  (∀ (A B : TypeId) (x : aA) (t : Nat), ca C l dst (.eP A B x) t false os none K (.bool false) = c9 C dst os K (cy (R l) (eP C (R l) A B (aG (R l) x)))) ∧
  (∀ (f : FuncId) (cs : List aA) (t : Nat), ca C l dst (.hd f cs) t true os none K (.bool true) = c9 C dst os K (some (.fn f (g4 (R l) cs), R l))) ∧
  (∀ (f : FuncId) (cs : List aA) (t : Nat), ca C l dst (.hd f cs) t false os none K (.bool false) = c9 C dst os K (some (.fn f (g4 (R l) cs), R l))) ∧
  (∀ (T : TypeId) (x y : aA) (t : Nat), ca C l dst (.eG T x y) t true os none K (.bool true) = c9 C dst os K (cy (R l) (eG C T (aG (R l) x) (aG (R l) y)))) ∧
  (∀ (T : TypeId) (x y : aA) (t : Nat), ca C l dst (.eG T x y) t false os none K (.bool false) = c9 C dst os K (cy (R l) (eG C T (aG (R l) x) (aG (R l) y)))) ∧
  (∀ (T : TypeId) (x : aA) (cF ak : Option aA) (t : Nat), ca C l dst (.ed T x cF ak) t true os none K (.bool true) = c9 C dst os K (ed C (R l) T (aG (R l) x) (jL (R l) cF) (jL (R l) ak))) ∧
  (∀ (T : TypeId) (x : aA) (cF ak : Option aA) (t : Nat), ca C l dst (.ed T x cF ak) t false os none K (.bool false) = c9 C dst os K (ed C (R l) T (aG (R l) x) (jL (R l) cF) (jL (R l) ak))) ∧
  (∀ (T : TypeId) (x : aA) (k : Nat) (t : Nat), ca C l dst (.bc T x k) t true os none K (.bool true) = c9 C dst os K (cy (R l) (bc C (R l) T (aG (R l) x) k))) ∧
  (∀ (T : TypeId) (x : aA) (k : Nat) (t : Nat), ca C l dst (.bc T x k) t false os none K (.bool false) = c9 C dst os K (cy (R l) (bc C (R l) T (aG (R l) x) k))) ∧
  (∀ (T : TypeId) (x y : aA) (t : Nat), ca C l dst (.bX T x y) t true os none K (.bool true) = c9 C dst os K (cy (R l) (bX C (R l) T (aG (R l) x) (aG (R l) y)))) ∧
  (∀ (T : TypeId) (x y : aA) (t : Nat), ca C l dst (.bX T x y) t false os none K (.bool false) = c9 C dst os K (cy (R l) (bX C (R l) T (aG (R l) x) (aG (R l) y)))) ∧
  (∀ (T : TypeId) (x y : aA) (t : Nat), ca C l dst (.idx T x y) t true os none K (.bool true) = c9 C dst os K (cy (R l) (idx C T (aG (R l) x) (aG (R l) y)))) ∧
  (∀ (T : TypeId) (x y : aA) (t : Nat), ca C l dst (.idx T x y) t false os none K (.bool false) = c9 C dst os K (cy (R l) (idx C T (aG (R l) x) (aG (R l) y)))) ∧
  (∀ (x : aA) (k : Nat) (t : Nat), ca C l dst (.ex x k) t true os none K (.bool true) = c9 C dst os K (cy (R l) (ex (R l) (aG (R l) x) k))) ∧
  (∀ (x : aA) (k : Nat) (t : Nat), ca C l dst (.ex x k) t false os none K (.bool false) = c9 C dst os K (cy (R l) (ex (R l) (aG (R l) x) k))) ∧
  (∀ (T : TypeId) (x : aA) (t : Nat), ca C l dst (.len T x) t true os none K (.bool true) = c9 C dst os K (cy (R l) (kl C (R l) T (aG (R l) x)))) ∧
  (∀ (T : TypeId) (x : aA) (t : Nat), ca C l dst (.len T x) t false os none K (.bool false) = c9 C dst os K (cy (R l) (kl C (R l) T (aG (R l) x)))) ∧
  (∀ (T bx : TypeId) (x y : aA) (t : Nat), ca C l dst (.app T bx x y) t true os none K (.bool true) = c9 C dst os K (kn C (R l) T bx (aG (R l) x) (aG (R l) y))) ∧
  (∀ (T bx : TypeId) (x y : aA) (t : Nat), ca C l dst (.app T bx x y) t false os none K (.bool false) = c9 C dst os K (kn C (R l) T bx (aG (R l) x) (aG (R l) y))) :=
 ⟨fun x _ => (eH rfl).trans (congrArg _ (rC x)), fun x _ => (eH rfl).trans (congrArg _ (rC x)), fun x _ => (eH rfl).trans (congrArg _ (rD x)), fun x _ => (eH rfl).trans (congrArg _ (rD x)), fun c x y _ => (eH rfl).trans (congrArg _ (rE c x y)), fun c x y _ => (eH rfl).trans (congrArg _ (rE c x y)), fun T _ => (eH rfl).trans (congrArg _ (rF T)), fun T _ => (eH rfl).trans (congrArg _ (rF T)), fun T x _ => (eH rfl).trans (congrArg _ (rG T x)), fun T x _ => (eH rfl).trans (congrArg _ (rG T x)), fun T ps _ => (eH rfl).trans (congrArg _ (rH T ps)), fun T ps _ => (eH rfl).trans (congrArg _ (rH T ps)), fun T n ps _ => (eH rfl).trans (congrArg _ (rI T n ps)), fun T n ps _ => (eH rfl).trans (congrArg _ (rI T n ps)), fun T x _ => (eH rfl).trans (congrArg _ (rJ T x)), fun T x _ => (eH rfl).trans (congrArg _ (rJ T x)), fun T x y _ => (eH rfl).trans (congrArg _ (rK T x y)), fun T x y _ => (eH rfl).trans (congrArg _ (rK T x y)), fun x _ => (eH rfl).trans (congrArg _ (rL x)), fun x _ => (eH rfl).trans (congrArg _ (rL x)), fun op T x y _ => (eH rfl).trans (congrArg _ (rM op T x y)), fun op T x y _ => (eH rfl).trans (congrArg _ (rM op T x y)), fun op x _ => (eH rfl).trans (congrArg _ (rN op x)), fun op x _ => (eH rfl).trans (congrArg _ (rN op x)), fun A B x _ => (eH rfl).trans (congrArg _ (rO A B x)), fun A B x _ => (eH rfl).trans (congrArg _ (rO A B x)), fun f cs _ => (eH rfl).trans (congrArg _ (rP f cs)), fun f cs _ => (eH rfl).trans (congrArg _ (rP f cs)), fun T x y _ => (eH rfl).trans (congrArg _ (rQ T x y)), fun T x y _ => (eH rfl).trans (congrArg _ (rQ T x y)), fun T x cF ak _ => (eH rfl).trans (congrArg _ (rR T x cF ak)), fun T x cF ak _ => (eH rfl).trans (congrArg _ (rR T x cF ak)), fun T x k _ => (eH rfl).trans (congrArg _ (rS T x k)), fun T x k _ => (eH rfl).trans (congrArg _ (rS T x k)), fun T x y _ => (eH rfl).trans (congrArg _ (rT T x y)), fun T x y _ => (eH rfl).trans (congrArg _ (rT T x y)), fun T x y _ => (eH rfl).trans (congrArg _ (rU T x y)), fun T x y _ => (eH rfl).trans (congrArg _ (rU T x y)), fun x k _ => (eH rfl).trans (congrArg _ (rV x k)), fun x k _ => (eH rfl).trans (congrArg _ (rV x k)), fun T x _ => (eH rfl).trans (congrArg _ (rW T x)), fun T x _ => (eH rfl).trans (congrArg _ (rW T x)), fun T bx x y _ => (eH rfl).trans (congrArg _ (rX T bx x y)), fun T bx x y _ => (eH rfl).trans (congrArg _ (rX T bx x y))⟩
theorem MP :
  (∀ (x : aA) (t : Nat), ca C l dst (.ag x) t true os (some a) K (.bool true) = c_ C l (t :: use (R l) (.ag x)) (c1 (R l) (.ag x)) dst os a K (some (aG (R l) x, R l))) ∧
  (∀ (x : aA) (t : Nat), ca C l dst (.ag x) t false os (some a) K (.bool false) = c_ C l (t :: use (R l) (.ag x)) (c1 (R l) (.ag x)) dst os a K (some (aG (R l) x, R l))) ∧
  (∀ (x : aA) (t : Nat), ca C l dst (.ai x) t true os (some a) K (.bool true) = c_ C l (t :: use (R l) (.ai x)) (c1 (R l) (.ai x)) dst os a K (hW (R l) (aG (R l) x))) ∧
  (∀ (x : aA) (t : Nat), ca C l dst (.ai x) t false os (some a) K (.bool false) = c_ C l (t :: use (R l) (.ai x)) (c1 (R l) (.ai x)) dst os a K (hW (R l) (aG (R l) x))) ∧
  (∀ (c x y : aA) (t : Nat), ca C l dst (.pick c x y) t true os (some a) K (.bool true) = c_ C l (t :: use (R l) (.pick c x y)) (c1 (R l) (.pick c x y)) dst os a K (oJ (R l) (aG (R l) c) (aG (R l) x) (aG (R l) y))) ∧
  (∀ (c x y : aA) (t : Nat), ca C l dst (.pick c x y) t false os (some a) K (.bool false) = c_ C l (t :: use (R l) (.pick c x y)) (c1 (R l) (.pick c x y)) dst os a K (oJ (R l) (aG (R l) c) (aG (R l) x) (aG (R l) y))) ∧
  (∀ (T : TypeId) (t : Nat), ca C l dst (.dS T) t true os (some a) K (.bool true) = c_ C l (t :: use (R l) (.dS T)) (c1 (R l) (.dS T)) dst os a K (cy (R l) (dS C T))) ∧
  (∀ (T : TypeId) (t : Nat), ca C l dst (.dS T) t false os (some a) K (.bool false) = c_ C l (t :: use (R l) (.dS T)) (c1 (R l) (.dS T)) dst os a K (cy (R l) (dS C T))) ∧
  (∀ (T : TypeId) (x : aA) (t : Nat), ca C l dst (.di T x) t true os (some a) K (.bool true) = c_ C l (t :: use (R l) (.di T x)) (c1 (R l) (.di T x)) dst os a K (di (R l) (aG (R l) x))) ∧
  (∀ (T : TypeId) (x : aA) (t : Nat), ca C l dst (.di T x) t false os (some a) K (.bool false) = c_ C l (t :: use (R l) (.di T x)) (c1 (R l) (.di T x)) dst os a K (di (R l) (aG (R l) x))) ∧
  (∀ (T : TypeId) (ps : List (Nat × aA)) (t : Nat), ca C l dst (.eQ T ps) t true os (some a) K (.bool true) = c_ C l (t :: use (R l) (.eQ T ps)) (c1 (R l) (.eQ T ps)) dst os a K (eQ C (R l) T (iQ (R l) ps))) ∧
  (∀ (T : TypeId) (ps : List (Nat × aA)) (t : Nat), ca C l dst (.eQ T ps) t false os (some a) K (.bool false) = c_ C l (t :: use (R l) (.eQ T ps)) (c1 (R l) (.eQ T ps)) dst os a K (eQ C (R l) T (iQ (R l) ps))) ∧
  (∀ (T : TypeId) (n : Nat) (ps : List (Nat × aA)) (t : Nat), ca C l dst (.dN T n ps) t true os (some a) K (.bool true) = c_ C l (t :: use (R l) (.dN T n ps)) (c1 (R l) (.dN T n ps)) dst os a K (dN C (R l) T n (iQ (R l) ps))) ∧
  (∀ (T : TypeId) (n : Nat) (ps : List (Nat × aA)) (t : Nat), ca C l dst (.dN T n ps) t false os (some a) K (.bool false) = c_ C l (t :: use (R l) (.dN T n ps)) (c1 (R l) (.dN T n ps)) dst os a K (dN C (R l) T n (iQ (R l) ps))) ∧
  (∀ (T : TypeId) (x : aA) (t : Nat), ca C l dst (.aM T x) t true os (some a) K (.bool true) = c_ C l (t :: use (R l) (.aM T x)) (c1 (R l) (.aM T x)) dst os a K (cy (R l) (aM C (R l) T (aG (R l) x)))) ∧
  (∀ (T : TypeId) (x : aA) (t : Nat), ca C l dst (.aM T x) t false os (some a) K (.bool false) = c_ C l (t :: use (R l) (.aM T x)) (c1 (R l) (.aM T x)) dst os a K (cy (R l) (aM C (R l) T (aG (R l) x)))) ∧
  (∀ (T : TypeId) (x y : aA) (t : Nat), ca C l dst (.cP T x y) t true os (some a) K (.bool true) = c_ C l (t :: use (R l) (.cP T x y)) (c1 (R l) (.cP T x y)) dst os a K (dT (cP C (R l) T (aG (R l) x) (aG (R l) y)))) ∧
  (∀ (T : TypeId) (x y : aA) (t : Nat), ca C l dst (.cP T x y) t false os (some a) K (.bool false) = c_ C l (t :: use (R l) (.cP T x y)) (c1 (R l) (.cP T x y)) dst os a K (dT (cP C (R l) T (aG (R l) x) (aG (R l) y)))) ∧
  (∀ (x : aA) (t : Nat), ca C l dst (.dz x) t true os (some a) K (.bool true) = c_ C l (t :: use (R l) (.dz x)) (c1 (R l) (.dz x)) dst os a K (cy (R l) (dz (R l) (aG (R l) x)))) ∧
  (∀ (x : aA) (t : Nat), ca C l dst (.dz x) t false os (some a) K (.bool false) = c_ C l (t :: use (R l) (.dz x)) (c1 (R l) (.dz x)) dst os a K (cy (R l) (dz (R l) (aG (R l) x)))) ∧
  (∀ (op : BinOp) (T : TypeId) (x y : aA) (t : Nat), ca C l dst (.aB op T x y) t true os (some a) K (.bool true) = c_ C l (t :: use (R l) (.aB op T x y)) (c1 (R l) (.aB op T x y)) dst os a K (cy (R l) (aB C (R l) op T (aG (R l) x) (aG (R l) y)))) ∧
  (∀ (op : BinOp) (T : TypeId) (x y : aA) (t : Nat), ca C l dst (.aB op T x y) t false os (some a) K (.bool false) = c_ C l (t :: use (R l) (.aB op T x y)) (c1 (R l) (.aB op T x y)) dst os a K (cy (R l) (aB C (R l) op T (aG (R l) x) (aG (R l) y)))) ∧
  (∀ (op : UnOp) (x : aA) (t : Nat), ca C l dst (.un op x) t true os (some a) K (.bool true) = c_ C l (t :: use (R l) (.un op x)) (c1 (R l) (.un op x)) dst os a K (cy (R l) (un op (aG (R l) x)))) ∧
  (∀ (op : UnOp) (x : aA) (t : Nat), ca C l dst (.un op x) t false os (some a) K (.bool false) = c_ C l (t :: use (R l) (.un op x)) (c1 (R l) (.un op x)) dst os a K (cy (R l) (un op (aG (R l) x)))) ∧
  (∀ (A B : TypeId) (x : aA) (t : Nat), ca C l dst (.eP A B x) t true os (some a) K (.bool true) = c_ C l (t :: use (R l) (.eP A B x)) (c1 (R l) (.eP A B x)) dst os a K (cy (R l) (eP C (R l) A B (aG (R l) x)))) ∧
  (∀ (A B : TypeId) (x : aA) (t : Nat), ca C l dst (.eP A B x) t false os (some a) K (.bool false) = c_ C l (t :: use (R l) (.eP A B x)) (c1 (R l) (.eP A B x)) dst os a K (cy (R l) (eP C (R l) A B (aG (R l) x)))) ∧
  (∀ (f : FuncId) (cs : List aA) (t : Nat), ca C l dst (.hd f cs) t true os (some a) K (.bool true) = c_ C l (t :: use (R l) (.hd f cs)) (c1 (R l) (.hd f cs)) dst os a K (some (.fn f (g4 (R l) cs), R l))) ∧
  (∀ (f : FuncId) (cs : List aA) (t : Nat), ca C l dst (.hd f cs) t false os (some a) K (.bool false) = c_ C l (t :: use (R l) (.hd f cs)) (c1 (R l) (.hd f cs)) dst os a K (some (.fn f (g4 (R l) cs), R l))) ∧
  (∀ (T : TypeId) (x y : aA) (t : Nat), ca C l dst (.eG T x y) t true os (some a) K (.bool true) = c_ C l (t :: use (R l) (.eG T x y)) (c1 (R l) (.eG T x y)) dst os a K (cy (R l) (eG C T (aG (R l) x) (aG (R l) y)))) ∧
  (∀ (T : TypeId) (x y : aA) (t : Nat), ca C l dst (.eG T x y) t false os (some a) K (.bool false) = c_ C l (t :: use (R l) (.eG T x y)) (c1 (R l) (.eG T x y)) dst os a K (cy (R l) (eG C T (aG (R l) x) (aG (R l) y)))) ∧
  (∀ (T : TypeId) (x : aA) (cF ak : Option aA) (t : Nat), ca C l dst (.ed T x cF ak) t true os (some a) K (.bool true) = c_ C l (t :: use (R l) (.ed T x cF ak)) (c1 (R l) (.ed T x cF ak)) dst os a K (ed C (R l) T (aG (R l) x) (jL (R l) cF) (jL (R l) ak))) ∧
  (∀ (T : TypeId) (x : aA) (cF ak : Option aA) (t : Nat), ca C l dst (.ed T x cF ak) t false os (some a) K (.bool false) = c_ C l (t :: use (R l) (.ed T x cF ak)) (c1 (R l) (.ed T x cF ak)) dst os a K (ed C (R l) T (aG (R l) x) (jL (R l) cF) (jL (R l) ak))) ∧
  (∀ (T : TypeId) (x : aA) (k : Nat) (t : Nat), ca C l dst (.bc T x k) t true os (some a) K (.bool true) = c_ C l (t :: use (R l) (.bc T x k)) (c1 (R l) (.bc T x k)) dst os a K (cy (R l) (bc C (R l) T (aG (R l) x) k))) ∧
  (∀ (T : TypeId) (x : aA) (k : Nat) (t : Nat), ca C l dst (.bc T x k) t false os (some a) K (.bool false) = c_ C l (t :: use (R l) (.bc T x k)) (c1 (R l) (.bc T x k)) dst os a K (cy (R l) (bc C (R l) T (aG (R l) x) k))) ∧
  (∀ (T : TypeId) (x y : aA) (t : Nat), ca C l dst (.bX T x y) t true os (some a) K (.bool true) = c_ C l (t :: use (R l) (.bX T x y)) (c1 (R l) (.bX T x y)) dst os a K (cy (R l) (bX C (R l) T (aG (R l) x) (aG (R l) y)))) ∧
  (∀ (T : TypeId) (x y : aA) (t : Nat), ca C l dst (.bX T x y) t false os (some a) K (.bool false) = c_ C l (t :: use (R l) (.bX T x y)) (c1 (R l) (.bX T x y)) dst os a K (cy (R l) (bX C (R l) T (aG (R l) x) (aG (R l) y)))) ∧
  (∀ (T : TypeId) (x y : aA) (t : Nat), ca C l dst (.idx T x y) t true os (some a) K (.bool true) = c_ C l (t :: use (R l) (.idx T x y)) (c1 (R l) (.idx T x y)) dst os a K (cy (R l) (idx C T (aG (R l) x) (aG (R l) y)))) ∧
  (∀ (T : TypeId) (x y : aA) (t : Nat), ca C l dst (.idx T x y) t false os (some a) K (.bool false) = c_ C l (t :: use (R l) (.idx T x y)) (c1 (R l) (.idx T x y)) dst os a K (cy (R l) (idx C T (aG (R l) x) (aG (R l) y)))) ∧
  (∀ (x : aA) (k : Nat) (t : Nat), ca C l dst (.ex x k) t true os (some a) K (.bool true) = c_ C l (t :: use (R l) (.ex x k)) (c1 (R l) (.ex x k)) dst os a K (cy (R l) (ex (R l) (aG (R l) x) k))) ∧
  (∀ (x : aA) (k : Nat) (t : Nat), ca C l dst (.ex x k) t false os (some a) K (.bool false) = c_ C l (t :: use (R l) (.ex x k)) (c1 (R l) (.ex x k)) dst os a K (cy (R l) (ex (R l) (aG (R l) x) k))) ∧
  (∀ (T : TypeId) (x : aA) (t : Nat), ca C l dst (.len T x) t true os (some a) K (.bool true) = c_ C l (t :: use (R l) (.len T x)) (c1 (R l) (.len T x)) dst os a K (cy (R l) (kl C (R l) T (aG (R l) x)))) ∧
  (∀ (T : TypeId) (x : aA) (t : Nat), ca C l dst (.len T x) t false os (some a) K (.bool false) = c_ C l (t :: use (R l) (.len T x)) (c1 (R l) (.len T x)) dst os a K (cy (R l) (kl C (R l) T (aG (R l) x)))) ∧
  (∀ (T bx : TypeId) (x y : aA) (t : Nat), ca C l dst (.app T bx x y) t true os (some a) K (.bool true) = c_ C l (t :: use (R l) (.app T bx x y)) (c1 (R l) (.app T bx x y)) dst os a K (kn C (R l) T bx (aG (R l) x) (aG (R l) y))) ∧
  (∀ (T bx : TypeId) (x y : aA) (t : Nat), ca C l dst (.app T bx x y) t false os (some a) K (.bool false) = c_ C l (t :: use (R l) (.app T bx x y)) (c1 (R l) (.app T bx x y)) dst os a K (kn C (R l) T bx (aG (R l) x) (aG (R l) y))) :=
 ⟨fun x _ => (eI rfl).trans (congrArg _ (rC x)), fun x _ => (eI rfl).trans (congrArg _ (rC x)), fun x _ => (eI rfl).trans (congrArg _ (rD x)), fun x _ => (eI rfl).trans (congrArg _ (rD x)), fun c x y _ => (eI rfl).trans (congrArg _ (rE c x y)), fun c x y _ => (eI rfl).trans (congrArg _ (rE c x y)), fun T _ => (eI rfl).trans (congrArg _ (rF T)), fun T _ => (eI rfl).trans (congrArg _ (rF T)), fun T x _ => (eI rfl).trans (congrArg _ (rG T x)), fun T x _ => (eI rfl).trans (congrArg _ (rG T x)), fun T ps _ => (eI rfl).trans (congrArg _ (rH T ps)), fun T ps _ => (eI rfl).trans (congrArg _ (rH T ps)), fun T n ps _ => (eI rfl).trans (congrArg _ (rI T n ps)), fun T n ps _ => (eI rfl).trans (congrArg _ (rI T n ps)), fun T x _ => (eI rfl).trans (congrArg _ (rJ T x)), fun T x _ => (eI rfl).trans (congrArg _ (rJ T x)), fun T x y _ => (eI rfl).trans (congrArg _ (rK T x y)), fun T x y _ => (eI rfl).trans (congrArg _ (rK T x y)), fun x _ => (eI rfl).trans (congrArg _ (rL x)), fun x _ => (eI rfl).trans (congrArg _ (rL x)), fun op T x y _ => (eI rfl).trans (congrArg _ (rM op T x y)), fun op T x y _ => (eI rfl).trans (congrArg _ (rM op T x y)), fun op x _ => (eI rfl).trans (congrArg _ (rN op x)), fun op x _ => (eI rfl).trans (congrArg _ (rN op x)), fun A B x _ => (eI rfl).trans (congrArg _ (rO A B x)), fun A B x _ => (eI rfl).trans (congrArg _ (rO A B x)), fun f cs _ => (eI rfl).trans (congrArg _ (rP f cs)), fun f cs _ => (eI rfl).trans (congrArg _ (rP f cs)), fun T x y _ => (eI rfl).trans (congrArg _ (rQ T x y)), fun T x y _ => (eI rfl).trans (congrArg _ (rQ T x y)), fun T x cF ak _ => (eI rfl).trans (congrArg _ (rR T x cF ak)), fun T x cF ak _ => (eI rfl).trans (congrArg _ (rR T x cF ak)), fun T x k _ => (eI rfl).trans (congrArg _ (rS T x k)), fun T x k _ => (eI rfl).trans (congrArg _ (rS T x k)), fun T x y _ => (eI rfl).trans (congrArg _ (rT T x y)), fun T x y _ => (eI rfl).trans (congrArg _ (rT T x y)), fun T x y _ => (eI rfl).trans (congrArg _ (rU T x y)), fun T x y _ => (eI rfl).trans (congrArg _ (rU T x y)), fun x k _ => (eI rfl).trans (congrArg _ (rV x k)), fun x k _ => (eI rfl).trans (congrArg _ (rV x k)), fun T x _ => (eI rfl).trans (congrArg _ (rW T x)), fun T x _ => (eI rfl).trans (congrArg _ (rW T x)), fun T bx x y _ => (eI rfl).trans (congrArg _ (rX T bx x y)), fun T bx x y _ => (eI rfl).trans (congrArg _ (rX T bx x y))⟩
end
theorem EW :
  (∀ (t : Nat) (k : IntKind) (n : Int), hU t (.int k n) = (.int k n)) ∧
  (∀ (t : Nat) (b : Bool), hU t (.bool b) = (.bool b)) ∧
  (∀ (t : Nat) (x : List UInt8), hU t (.str x) = (.str x)) ∧
  (∀ (t : Nat) (xs : List I), hU t (.slice xs) = (.slice xs)) ∧
  (∀ (t : Nat) (d : I), hU t (.ref d) = (.ref d)) ∧
  (∀ (t : Nat) (f : FuncId) (cap : List I), hU t (.fn f cap) = (.fn f cap)) ∧
  (∀ (t : Nat) (x : Nat) (q : List Nat), hU t (.h x q) = (.h x q)) ∧
  (∀ (t : Nat) (x : Nat) (q : List Nat), hU t (.an x q) = (.an x q)) ∧
  (∀ (t : Nat) , hU t .c7 = .c7) ∧
  (∀ (t : Nat) , hU t .bA = .bA) ∧
  (∀ (t : Nat) , hU t .dV = .dV) ∧
  (∀ (t : Nat) , hU t .hole = .hole) ∧
  (∀ (t : Nat) (sz : Nat) (xs : List I), hU t (.aE sz xs) = .h t []) ∧
  (∀ (t : Nat) (d : I), hU t (.bd d) = .h t []) ∧
  (∀ (t : Nat) (aw : List I), hU t (.agg aw) = if I.e2 aw = true then (.agg aw) else .h t []) ∧
  (∀ (t : Nat) (aw : List I), hU t (.tuple aw) = if I.e2 aw = true then (.tuple aw) else .h t []) :=
 ⟨fun _ _ _ => rfl, fun _ _ => rfl, fun _ _ => rfl, fun _ _ => rfl, fun _ _ => rfl, fun _ _ _ => rfl, fun _ _ _ => rfl, fun _ _ _ => rfl, fun _  => rfl, fun _  => rfl, fun _  => rfl, fun _  => rfl, fun _ _ _ => rfl, fun _ _ => rfl, fun _ _ => rfl, fun _ _ => rfl⟩
theorem EX :
  (∀ (l : List (Nat × I)) (av : I), fin (R l) none av = R l) ∧
  (∀ (l : List (Nat × I)) (t : Nat) (k : IntKind) (n : Int), fin (R l) (some t) (.int k n) = R ((t, (.int k n)) :: l)) ∧
  (∀ (l : List (Nat × I)) (t : Nat) (b : Bool), fin (R l) (some t) (.bool b) = R ((t, (.bool b)) :: l)) ∧
  (∀ (l : List (Nat × I)) (t : Nat) (x : List UInt8), fin (R l) (some t) (.str x) = R ((t, (.str x)) :: l)) ∧
  (∀ (l : List (Nat × I)) (t : Nat) (xs : List I), fin (R l) (some t) (.slice xs) = R ((t, (.slice xs)) :: l)) ∧
  (∀ (l : List (Nat × I)) (t : Nat) (d : I), fin (R l) (some t) (.ref d) = R ((t, (.ref d)) :: l)) ∧
  (∀ (l : List (Nat × I)) (t : Nat) (f : FuncId) (cap : List I), fin (R l) (some t) (.fn f cap) = R ((t, (.fn f cap)) :: l)) ∧
  (∀ (l : List (Nat × I)) (t : Nat) (x : Nat) (q : List Nat), fin (R l) (some t) (.h x q) = R ((t, (.h x q)) :: l)) ∧
  (∀ (l : List (Nat × I)) (t : Nat) (x : Nat) (q : List Nat), fin (R l) (some t) (.an x q) = R ((t, (.an x q)) :: l)) ∧
  (∀ (l : List (Nat × I)) (t : Nat) , fin (R l) (some t) .c7 = R ((t, .c7) :: l)) ∧
  (∀ (l : List (Nat × I)) (t : Nat) , fin (R l) (some t) .bA = R ((t, .bA) :: l)) ∧
  (∀ (l : List (Nat × I)) (t : Nat) , fin (R l) (some t) .dV = R ((t, .dV) :: l)) ∧
  (∀ (l : List (Nat × I)) (t : Nat) , fin (R l) (some t) .hole = R ((t, .hole) :: l)) ∧
  (∀ (l : List (Nat × I)) (t : Nat) (sz : Nat) (xs : List I), fin (R l) (some t) (.aE sz xs) = R ((t, (.aE sz xs)) :: mJ t l)) ∧
  (∀ (l : List (Nat × I)) (t : Nat) (d : I), fin (R l) (some t) (.bd d) = R ((t, (.bd d)) :: mJ t l)) ∧
  (∀ (l : List (Nat × I)) (t : Nat) (aw : List I), fin (R l) (some t) (.agg aw) = R ((t, (.agg aw)) :: if I.e2 aw = true then l else mJ t l)) ∧
  (∀ (l : List (Nat × I)) (t : Nat) (aw : List I), fin (R l) (some t) (.tuple aw) = R ((t, (.tuple aw)) :: if I.e2 aw = true then l else mJ t l)) :=
 ⟨fun _ _ => rfl, fun l t _ _ => by simp only [fin, I.plain, if_true, jK], fun l t _ => by simp only [fin, I.plain, if_true, jK], fun l t _ => by simp only [fin, I.plain, if_true, jK], fun l t _ => by simp only [fin, I.plain, if_true, jK], fun l t _ => by simp only [fin, I.plain, if_true, jK], fun l t _ _ => by simp only [fin, I.plain, if_true, jK], fun l t _ _ => by simp only [fin, I.plain, if_true, jK], fun l t _ _ => by simp only [fin, I.plain, if_true, jK], fun l t  => by simp only [fin, I.plain, if_true, jK], fun l t  => by simp only [fin, I.plain, if_true, jK], fun l t  => by simp only [fin, I.plain, if_true, jK], fun l t  => by simp only [fin, I.plain, if_true, jK], fun l t _ _ => by simp only [fin, I.plain, Bool.false_eq_true, if_false, tG, jK], fun l t _ => by simp only [fin, I.plain, Bool.false_eq_true, if_false, tG, jK], fun l t _ => by simp only [fin, I.plain, tG, jK]; split <;> rfl, fun l t _ => by simp only [fin, I.plain, tG, jK]; split <;> rfl⟩
theorem EY :
  (∀ (k : IntKind) (n : Int), I.plain (.int k n) = true) ∧
  (∀ (b : Bool), I.plain (.bool b) = true) ∧
  (∀ (x : List UInt8), I.plain (.str x) = true) ∧
  (∀ (xs : List I), I.plain (.slice xs) = true) ∧
  (∀ (d : I), I.plain (.ref d) = true) ∧
  (∀ (f : FuncId) (cap : List I), I.plain (.fn f cap) = true) ∧
  (∀ (x : Nat) (q : List Nat), I.plain (.h x q) = true) ∧
  (∀ (x : Nat) (q : List Nat), I.plain (.an x q) = true) ∧
  (I.plain .c7 = true) ∧
  (I.plain .bA = true) ∧
  (I.plain .dV = true) ∧
  (I.plain .hole = true) ∧
  (∀ (sz : Nat) (xs : List I), I.plain (.aE sz xs) = false) ∧
  (∀ (d : I), I.plain (.bd d) = false) ∧
  (∀ (aw : List I), I.plain (.agg aw) = I.e2 aw) ∧
  (∀ (aw : List I), I.plain (.tuple aw) = I.e2 aw) ∧
  (I.e2 [] = true) ∧
  (∀ d ds, I.e2 (d :: ds) = (d.plain && I.e2 ds)) :=
 ⟨fun _ _ => rfl, fun _ => rfl, fun _ => rfl, fun _ => rfl, fun _ => rfl, fun _ _ => rfl, fun _ _ => rfl, fun _ _ => rfl, rfl, rfl, rfl, rfl, fun _ _ => rfl, fun _ => rfl, fun _ => rfl, fun _ => rfl, rfl, fun _ _ => rfl⟩
theorem EZ :
  (∀ (s : aj) (k : IntKind) (n : Int), hW s (.int k n) = some ((.int k n), s)) ∧
  (∀ (s : aj) (b : Bool), hW s (.bool b) = some ((.bool b), s)) ∧
  (∀ (s : aj) (x : List UInt8), hW s (.str x) = some ((.str x), s)) ∧
  (∀ (s : aj) (xs : List I), hW s (.slice xs) = some ((.slice xs), s)) ∧
  (∀ (s : aj) (d : I), hW s (.ref d) = some ((.ref d), s)) ∧
  (∀ (s : aj) (f : FuncId) (cap : List I), hW s (.fn f cap) = some ((.fn f cap), s)) ∧
  (∀ (s : aj) (x : Nat) (q : List Nat), hW s (.an x q) = some ((.an x q), s)) ∧
  (∀ (s : aj) , hW s .c7 = some (.c7, s)) ∧
  (∀ (s : aj) , hW s .bA = some (.bA, s)) ∧
  (∀ (s : aj) , hW s .dV = some (.dV, s)) ∧
  (∀ (s : aj) , hW s .hole = some (.hole, s)) ∧
  (∀ (s : aj) (sz : Nat) (xs : List I), hW s (.aE sz xs) = some ((.aE sz xs), s)) ∧
  (∀ (s : aj) (d : I), hW s (.bd d) = some ((.bd d), s)) ∧
  (∀ (s : aj) (aw : List I), hW s (.agg aw) = some ((.agg aw), s)) ∧
  (∀ (s : aj) (aw : List I), hW s (.tuple aw) = some ((.tuple aw), s)) ∧
  (∀ (s : aj) y q, hW s (.h y q) = ct s (.h y q)) :=
 ⟨fun _ _ _ => rfl, fun _ _ => rfl, fun _ _ => rfl, fun _ _ => rfl, fun _ _ => rfl, fun _ _ _ => rfl, fun _ _ _ => rfl, fun _  => rfl, fun _  => rfl, fun _  => rfl, fun _  => rfl, fun _ _ _ => rfl, fun _ _ => rfl, fun _ _ => rfl, fun _ _ => rfl, fun _ _ _ => rfl⟩
theorem E0 :
  (∀ (t : Nat) (k : IntKind) (n : Int), cn t (.int k n) = (.int k n)) ∧
  (∀ (t : Nat) (b : Bool), cn t (.bool b) = (.bool b)) ∧
  (∀ (t : Nat) (x : List UInt8), cn t (.str x) = (.str x)) ∧
  (∀ (t : Nat) (xs : List I), cn t (.slice xs) = (.slice xs)) ∧
  (∀ (t : Nat) (d : I), cn t (.ref d) = (.ref d)) ∧
  (∀ (t : Nat) , cn t .c7 = .c7) ∧
  (∀ (t : Nat) , cn t .bA = .bA) ∧
  (∀ (t : Nat) , cn t .dV = .dV) ∧
  (∀ (t : Nat) , cn t .hole = .hole) ∧
  (∀ (t : Nat) (sz : Nat) (xs : List I), cn t (.aE sz xs) = (.aE sz xs)) ∧
  (∀ (t : Nat) (d : I), cn t (.bd d) = (.bd d)) ∧
  (∀ (t : Nat) (aw : List I), cn t (.agg aw) = (.agg aw)) ∧
  (∀ (t : Nat) (aw : List I), cn t (.tuple aw) = (.tuple aw)) ∧
  (∀ (t y : Nat) q, cn t (.h y q) = if y = t then .hole else .h y q) ∧
  (∀ (t y : Nat) q, cn t (.an y q) = if y = t then .hole else .an y q) ∧
  (∀ (t : Nat) f c, cn t (.fn f c) = .fn f (hG t c)) ∧
  (∀ t, hG t [] = []) ∧
  (∀ t d ds, hG t (d :: ds) = cn t d :: hG t ds) ∧
  (∀ t, mJ t [] = []) ∧
  (∀ t u d l, mJ t ((u, d) :: l) = (u, cn t d) :: mJ t l) ∧
  (∀ t l, ki t (R l) = R (mJ t l)) :=
 ⟨fun _ _ _ => by unfold cn; rfl, fun _ _ => by unfold cn; rfl, fun _ _ => by unfold cn; rfl, fun _ _ => by unfold cn; rfl, fun _ _ => by unfold cn; rfl, fun _  => by unfold cn; rfl, fun _  => by unfold cn; rfl, fun _  => by unfold cn; rfl, fun _  => by unfold cn; rfl, fun _ _ _ => by unfold cn; rfl, fun _ _ => by unfold cn; rfl, fun _ _ => by unfold cn; rfl, fun _ _ => by unfold cn; rfl, fun _ _ _ => by unfold cn; rfl, fun _ _ _ => by unfold cn; rfl, fun _ _ _ => by simp only [cn], fun _ => by simp only [hG], fun _ _ _ => by simp only [hG], fun _ => rfl, fun _ _ _ _ => rfl, fun t l => tG t l⟩
theorem E1 :
  (∀ (t : Nat) (k : IntKind) (n : Int), bW t (.int k n) = (.int k n)) ∧
  (∀ (t : Nat) (b : Bool), bW t (.bool b) = (.bool b)) ∧
  (∀ (t : Nat) (x : List UInt8), bW t (.str x) = (.str x)) ∧
  (∀ (t : Nat) (xs : List I), bW t (.slice xs) = (.slice xs)) ∧
  (∀ (t : Nat) (d : I), bW t (.ref d) = (.ref d)) ∧
  (∀ (t : Nat) , bW t .c7 = .c7) ∧
  (∀ (t : Nat) , bW t .bA = .bA) ∧
  (∀ (t : Nat) , bW t .dV = .dV) ∧
  (∀ (t : Nat) , bW t .hole = .hole) ∧
  (∀ (t : Nat) (sz : Nat) (xs : List I), bW t (.aE sz xs) = (.aE sz xs)) ∧
  (∀ (t : Nat) (d : I), bW t (.bd d) = (.bd d)) ∧
  (∀ (t : Nat) (aw : List I), bW t (.agg aw) = (.agg aw)) ∧
  (∀ (t : Nat) (aw : List I), bW t (.tuple aw) = (.tuple aw)) ∧
  (∀ (t y : Nat), bW t (.h y []) = .h y []) ∧
  (∀ (t y k : Nat) q, bW t (.h y (k :: q)) = if y = t then .hole else .h y (k :: q)) ∧
  (∀ (t y : Nat) q, bW t (.an y q) = if y = t then .hole else .an y q) ∧
  (∀ (t : Nat) f c, bW t (.fn f c) = .fn f (hc t c)) ∧
  (∀ t, hc t [] = []) ∧
  (∀ t d ds, hc t (d :: ds) = bW t d :: hc t ds) ∧
  (∀ t, pW t [] = []) ∧
  (∀ t u d l, pW t ((u, d) :: l) = (u, bW t d) :: pW t l) ∧
  (∀ t l, hp t (R l) = R (pW t l)) :=
 ⟨fun _ _ _ => by unfold bW; rfl, fun _ _ => by unfold bW; rfl, fun _ _ => by unfold bW; rfl, fun _ _ => by unfold bW; rfl, fun _ _ => by unfold bW; rfl, fun _  => by unfold bW; rfl, fun _  => by unfold bW; rfl, fun _  => by unfold bW; rfl, fun _  => by unfold bW; rfl, fun _ _ _ => by unfold bW; rfl, fun _ _ => by unfold bW; rfl, fun _ _ => by unfold bW; rfl, fun _ _ => by unfold bW; rfl, fun _ _ => by simp [bW], fun _ _ _ _ => by simp [bW], fun _ _ _ => by unfold bW; rfl, fun _ _ _ => by simp only [bW], fun _ => by simp only [hc], fun _ _ _ => by simp only [hc], fun _ => rfl, fun _ _ _ _ => rfl, fun t l => L9 t l⟩
def AY : lF → Bool → Option I
 | .bool, b => some (.bool b)
 | _, _ => none
def p1 (neg : Bool) : lF → Option (Option Bool) → Option I
 | .slice _, some r => some (sZ neg r)
 | _, _ => none
def p2 (neg : Bool) : lF → Option Bool → Option I
 | .ptr _, some b => some (.bool (b != neg))
 | _, _ => none
theorem E2 (C : bZ) (s : aj) (T : TypeId) :
  (∀ op k a cE b, aB C s op T (.int k a) (.int cE b) = hv op k a cE b) ∧
  (∀ op a b, aB C s op T (.str a) (.str b) = k9 op a b) ∧
  (∀ a b, aB C s .eql T (.bool a) (.bool b) = AY (C.T T).k (a == b)) ∧
  (∀ a b, aB C s .neq T (.bool a) (.bool b) = AY (C.T T).k (!(a == b))) ∧
  (∀ xs, aB C s .eql T (.slice xs) .bA = p1 false (C.T T).k (jC s (.slice xs))) ∧
  (∀ xs, aB C s .neq T (.slice xs) .bA = p1 true (C.T T).k (jC s (.slice xs))) ∧
  (aB C s .eql T .bA .bA = p1 false (C.T T).k (jC s .bA)) ∧
  (aB C s .neq T .bA .bA = p1 true (C.T T).k (jC s .bA)) ∧
  (∀ x q, aB C s .eql T (.h x q) .bA = p1 false (C.T T).k (jC s (.h x q))) ∧
  (∀ x q, aB C s .neq T (.h x q) .bA = p1 true (C.T T).k (jC s (.h x q))) ∧
  (∀ x q, aB C s .eql T (.h x q) .c7 = p2 false (C.T T).k (jD s (.h x q))) ∧
  (∀ x q, aB C s .neq T (.h x q) .c7 = p2 true (C.T T).k (jD s (.h x q))) ∧
  (∀ d, aB C s .eql T (.ref d) .c7 = p2 false (C.T T).k (jD s (.ref d))) ∧
  (∀ d, aB C s .neq T (.ref d) .c7 = p2 true (C.T T).k (jD s (.ref d))) ∧
  (aB C s .eql T .c7 .c7 = p2 false (C.T T).k (jD s .c7)) ∧
  (aB C s .neq T .c7 .c7 = p2 true (C.T T).k (jD s .c7)) := by
 refine ⟨?_, ?_, ?_, ?_, ?_, ?_, ?_, ?_, ?_, ?_, ?_, ?_, ?_, ?_, ?_, ?_⟩ <;> intros <;> first
  | rfl
  | (simp only [aB]
     generalize (C.T T).k = kk
     cases kk <;> first | rfl | (simp only [p1]; generalize jC s _ = v; cases v <;> rfl) | (simp only [p2]; generalize jD s _ = v; cases v <;> (try (rename_i b; cases b)) <;> rfl))
theorem E3 (k : IntKind) (a b : Int) :
  hv .add k a k b = some (.int k (k.wrap (a + b))) ∧ hv .sub k a k b = some (.int k (k.wrap (a - b))) ∧ hv .mul k a k b = some (.int k (k.wrap (a * b))) ∧
  hv .eql k a k b = some (.bool (a == b)) ∧ hv .neq k a k b = some (.bool (a != b)) ∧ hv .lss k a k b = some (.bool (decide (a < b))) ∧ hv .leq k a k b = some (.bool (decide (a ≤ b))) ∧
  hv .gtr k a k b = some (.bool (decide (b < a))) ∧ hv .geq k a k b = some (.bool (decide (b ≤ a))) ∧
  hv .and k a k b = some (.int k (bitsOf .and k a b)) ∧ hv .or k a k b = some (.int k (bitsOf .or k a b)) ∧ hv .xor k a k b = some (.int k (bitsOf .xor k a b)) ∧ hv .andNot k a k b = some (.int k (bitsOf .andNot k a b)) := by
 simp [hv]
theorem MQ {k : IntKind} {a b : Int} (h : b ≠ 0) : hv .quo k a k b = some (.int k (k.wrap (a.tdiv b))) := by simp [hv, h]
theorem MR {k : IntKind} {a b : Int} (h : b ≠ 0) : hv .rem k a k b = some (.int k (a.tmod b)) := by simp [hv, h]
theorem E4 (a b : List UInt8) :
  k9 .eql a b = some (.bool (a == b)) ∧ k9 .neq a b = some (.bool !(a == b)) ∧ k9 .lss a b = some (.bool (Op.bytesLess a b)) ∧
  k9 .leq a b = some (.bool (Op.bytesLess a b || a == b)) ∧ k9 .gtr a b = some (.bool !(Op.bytesLess a b || a == b)) ∧ k9 .geq a b = some (.bool !(Op.bytesLess a b)) := by
 refine ⟨rfl, rfl, rfl, rfl, rfl, rfl⟩
theorem E5 : (∀ b, un .not (.bool b) = some (.bool !b)) ∧ (un .not .dV = some .dV) ∧ (∀ k n, un .neg (.int k n) = some (.int k (k.wrap (0 - n)))) := ⟨fun _ => rfl, rfl, fun _ _ => rfl⟩
def AZ : lF → Option UInt8 → Option I
 | .str, some c => some (.int .u8 c.toNat)
 | _, _ => none
theorem E6 (C : bZ) (T : TypeId) (l : List UInt8) (k : IntKind) (n : Int) : idx C T (.str l) (.int k n) = AZ (C.T T).k (b5 l n) := by
 simp only [idx, b5]
 generalize (C.T T).k = kk
 cases kk <;> first | rfl | (simp only [AZ]; split <;> first | rfl | (cases l[n.toNat]? <;> rfl))
def A0 (C : bZ) : lF → Option I → Option I
 | .slice e, some d => if (C.T e).ok = true ∧ d.wd = (C.T e).sz then some (.ref d) else none
 | _, _ => none
theorem E7 (C : bZ) (s : aj) (T : TypeId) (xs : List I) (k : IntKind) (n : Int) : bX C s T (.slice xs) (.int k n) = A0 C (C.T T).k (b5 xs n) := by
 simp only [bX, b5]
 generalize (C.T T).k = kk
 cases kk <;> first | rfl | skip
 simp only [A0]
 by_cases bh : 0 ≤ n
 ·simp only [bh, true_and, if_true]
  split
  ·cases xs[n.toNat]? <;> simp [*]
  ·cases xs[n.toNat]? <;> simp [*]
 ·simp only [bh, false_and, if_false]
def tL (C : bZ) (y : Nat) (q : List Nat) (n : Int) : lF → Option I → Option I
 | .slice e, some (.aE sz xs) => if (b5 xs n).isSome = true ∧ (C.T e).ok = true ∧ sz = (C.T e).sz then some (.an y (q ++ [n.toNat])) else none
 | _, _ => none
theorem E8 (C : bZ) (s : aj) (T : TypeId) (y : Nat) (q : List Nat) (k : IntKind) (n : Int) : bX C s T (.h y q) (.int k n) = tL C y q n (C.T T).k (I.sub q (s y)) := by
 simp only [bX]
 generalize (C.T T).k = kk
 cases kk <;> first | rfl | skip
 rename_i e
 cases aa : I.sub q (s y) with
 | none => simp [tL]
 | some d =>
   cases d <;> first
    | (simp [tL]; done)
    | skip
   rename_i sz xs
   have bO : (b5 xs n).isSome = true ↔ 0 ≤ n ∧ n.toNat < xs.length := by
    unfold b5; split <;> simp_all <;> omega
   simp only [tL, bO]
   by_cases bh : 0 ≤ n <;> by_cases ab : (C.T e).ok = true <;> simp [bh, ab]
def rY : lF → aj → Option (List UInt8) → Option (I × aj)
 | .str, s, some t => some (.str t, s)
 | _, _, _ => none
def rZ (C : bZ) : lF → aj → List I → Option (List I) → Option (I × aj)
 | .slice e, s, xs, some t => if (C.T e).ok = true ∧ ∀ d ∈ xs, d.wd = (C.T e).sz then some (.slice t, s) else none
 | _, _, _, _ => none
theorem E9 (C : bZ) (s : aj) (T : TypeId) (l : List UInt8) :
  (∀ k a cE b, ed C s T (.str l) (some (.int k a)) (some (.int cE b)) = rY (C.T T).k s (hS l a b)) ∧
  (∀ cE b, ed C s T (.str l) none (some (.int cE b)) = rY (C.T T).k s (hS l 0 b)) ∧
  (∀ k a, ed C s T (.str l) (some (.int k a)) none = rY (C.T T).k s (hS l a l.length)) := by
 have e : ∀ (cF ak : Option I) (a b : Int), (iM 0 cF = if 0 ≤ a then some a.toNat else none) → (iM l.length ak = if 0 ≤ b then some b.toNat else none) → ed C s T (.str l) cF ak = rY (C.T T).k s (hS l a b) := by
  intro cF ak a b ab af
  simp only [ed]
  generalize (C.T T).k = kk
  cases kk <;> first | rfl | skip
  simp only [ab, af, hS]
  by_cases b7 : 0 ≤ a <;> by_cases U : 0 ≤ b <;> simp only [b7, U, if_true, if_false, rY, true_and, false_and]
  ·by_cases al : a ≤ b ∧ b ≤ l.length
   ·rw [if_pos ⟨by omega, by omega⟩, if_pos al]
   ·rw [if_neg (fun h => al ⟨by omega, by omega⟩), if_neg al]
  ·rw [if_neg (by omega)]
 exact ⟨fun k a cE b => e _ _ a b rfl rfl, fun cE b => e _ _ 0 b rfl rfl, fun k a => e _ _ a l.length rfl (by simp [iM])⟩
theorem E_ (C : bZ) (s : aj) (T : TypeId) (xs : List I) :
  (∀ k a cE b, ed C s T (.slice xs) (some (.int k a)) (some (.int cE b)) = rZ C (C.T T).k s xs (hS xs a b)) ∧
  (∀ cE b, ed C s T (.slice xs) none (some (.int cE b)) = rZ C (C.T T).k s xs (hS xs 0 b)) ∧
  (∀ k a, ed C s T (.slice xs) (some (.int k a)) none = rZ C (C.T T).k s xs (hS xs a xs.length)) := by
 have e : ∀ (cF ak : Option I) (a b : Int), (iM 0 cF = if 0 ≤ a then some a.toNat else none) → (iM xs.length ak = if 0 ≤ b then some b.toNat else none) → ed C s T (.slice xs) cF ak = rZ C (C.T T).k s xs (hS xs a b) := by
  intro cF ak a b ab af
  simp only [ed]
  generalize (C.T T).k = kk
  cases kk <;> first | rfl | skip
  simp only [ab, af, hS]
  by_cases b7 : 0 ≤ a <;> by_cases U : 0 ≤ b <;> simp only [b7, U, if_true, if_false, rZ, true_and, false_and]
  ·by_cases al : a ≤ b ∧ b ≤ xs.length
   ·rw [if_pos al]
    have ab : a.toNat ≤ b.toNat := by omega
    have af : b.toNat ≤ xs.length := by omega
    simp only [ab, af, true_and]
   ·rw [if_neg (fun h => al ⟨by omega, by omega⟩), if_neg al]
  ·rw [if_neg (by omega)]
 exact ⟨fun k a cE b => e _ _ a b rfl rfl, fun cE b => e _ _ 0 b rfl rfl, fun k a => e _ _ a xs.length rfl (by simp [iM])⟩
def tM (q : List Nat) : Option I → Option I
 | some d => I.sub q d
 | none => none
theorem Fa : (∀ d, I.sub [] d = some d) ∧ (∀ k q aw, I.sub (k :: q) (.agg aw) = tM q aw[k]?) ∧ (∀ k q aw, I.sub (k :: q) (.tuple aw) = tM q aw[k]?) ∧ (∀ k q sz xs, I.sub (k :: q) (.aE sz xs) = tM q xs[k]?) ∧
  (∀ q d, I.sub (0 :: q) (.bd d) = I.sub q d) ∧ (∀ q d, tM q (some d) = I.sub q d) ∧
  (∀ k q a b, I.sub (k :: q) (.int a b) = none) := by
 refine ⟨fun d => by simp [I.sub], ?_, ?_, ?_, fun q d => by simp [I.sub], fun _ _ => rfl, fun _ _ _ _ => by simp [I.sub]⟩
 ·intro k q aw; simp only [I.sub]; cases aw[k]? <;> rfl
 ·intro k q aw; simp only [I.sub]; cases aw[k]? <;> rfl
 ·intro k q sz aw; simp only [I.sub]; cases aw[k]? <;> rfl
def Fb (k : Nat) (q : List Nat) (n : I) (aw : List I) : Option I → I
 | some d => .agg (aw.set k (I.put q n d))
 | none => .agg aw
def Fe (k : Nat) (q : List Nat) (n : I) (aw : List I) : Option I → I
 | some d => .tuple (aw.set k (I.put q n d))
 | none => .tuple aw
def Ff (k : Nat) (q : List Nat) (n : I) (sz : Nat) (xs : List I) : Option I → I
 | some d => .aE sz (xs.set k (I.put q n d))
 | none => .aE sz xs
theorem Fg : (∀ n d, I.put [] n d = n) ∧ (∀ k q n aw, I.put (k :: q) n (.agg aw) = Fb k q n aw aw[k]?) ∧ (∀ k q n aw, I.put (k :: q) n (.tuple aw) = Fe k q n aw aw[k]?) ∧
  (∀ k q n sz xs, I.put (k :: q) n (.aE sz xs) = Ff k q n sz xs xs[k]?) ∧ (∀ q n d, I.put (0 :: q) n (.bd d) = .bd (I.put q n d)) ∧
  (∀ k q n aw d, Fb k q n aw (some d) = .agg (aw.set k (I.put q n d))) ∧ (∀ k q n aw d, Fe k q n aw (some d) = .tuple (aw.set k (I.put q n d))) ∧
  (∀ k q n sz xs d, Ff k q n sz xs (some d) = .aE sz (xs.set k (I.put q n d))) := by
 refine ⟨fun n d => by simp [I.put], ?_, ?_, ?_, fun q n d => by simp [I.put], fun _ _ _ _ _ => rfl, fun _ _ _ _ _ => rfl, fun _ _ _ _ _ _ => rfl⟩
 ·intro k q n aw; simp only [I.put]; cases aw[k]? <;> rfl
 ·intro k q n aw; simp only [I.put]; cases aw[k]? <;> rfl
 ·intro k q n sz aw; simp only [I.put]; cases aw[k]? <;> rfl
theorem A1 : (∀ k n, I.wd (.int k n) = 1) ∧ (∀ b, I.wd (.bool b) = 1) ∧ (∀ x, I.wd (.str x) = 1) ∧ (∀ x, I.wd (.slice x) = 1) ∧ (∀ n x, I.wd (.aE n x) = 1) ∧ (∀ x, I.wd (.ref x) = 1) ∧ (∀ x, I.wd (.bd x) = 1) ∧
  I.wd .bA = 1 ∧ I.wd .c7 = 1 ∧ I.wd .hole = 1 ∧ I.wd .dV = 1 ∧ (∀ x y, I.wd (.h x y) = 1) ∧ (∀ x y, I.wd (.an x y) = 1) ∧ (∀ x y, I.wd (.fn x y) = 1) ∧ (∀ aw, I.wd (.agg aw) = I.dp aw) ∧ (∀ aw, I.wd (.tuple aw) = I.dp aw) ∧ I.dp [] = 0 ∧ (∀ d ds, I.dp (d :: ds) = d.wd + I.dp ds) := by
 simp [I.wd, I.dp]
theorem MS {α : Type} {e : α → I} {n : Nat} (h : ∀ x, (e x).wd = n) (xs : List α) : (∀ d ∈ xs.map e, d.wd = n) = True := by
 simp only [List.mem_map, eq_iff_iff, iff_true]
 rintro d ⟨x, _, rfl⟩; exact h x
theorem MT (C : bZ) (s : aj) (A B : TypeId) (k cE : IntKind) (n : Int) (hx : (C.T A).ok = true) (gj : (C.T B).k = .int cE) : eP C s A B (.int k n) = some (.int cE (cE.wrap n)) := by
 simp only [eP, hx, gj, if_true]
theorem Fh (m : Int) : iY (nB m) = .int .u8 (IntKind.u8.wrap m) := by
 have h : 0 ≤ IntKind.u8.wrap m ∧ IntKind.u8.wrap m < 256 := by rw [IntKind.wrap_u8]; omega
 simp only [iY, nB, UInt8.toNat_ofNat']
 congr 1
 omega
theorem A2 (m : Int) : ((nB m).toNat : Int) = IntKind.u8.wrap m := by
 have h := Fh m
 simpa [iY] using h
section
variable {C : bZ} {l : List (Nat × I)} {Q : Exit → aj → Prop} {s : aj}
theorem jM {ros : List cg} {k : List Nat} (h : cb C (R l) ros none (fun _ s => Q .normal (R (hz k s)))) : cG C (.ae ros (some k)) Q (R l) := pY (fun _ _ h => h) h
theorem a7 {a b : J} (h : ∀ fu : Exit → aj → Prop, (∀ s, dv (cG C b Q) s → fu .normal s) → (∀ s, Q .ret s → fu .ret s) → (∀ i s, Q (.exit i) s → fu (.exit i) s) → cG C a fu s) : cG C (.seq a b) Q s :=
 h _ (fun _ h => h) (fun _ h => h) (fun _ _ h => h)
theorem c5 {ros : List cg} {k : List Nat} {b : J} (h : cb C (R l) ros none (fun _ s => cG C b Q (R (hz k s)))) : cG C (.seq (.ae ros (some k)) b) Q (R l) := pY (fun _ _ h => .inl h) h
theorem kQ {ros : List cg} {fT : List (List Nat)} {k : List Nat} {b : J} (hlen : fT.length = ros.length) (h : cb C (R l) ros (some []) (fun acc s => kO (rB fT) 0 [] (acc.getD []).reverse = true ∧ cG C b Q (R (hz k s)))) :
  cG C (.seq (.hK ros fT (some k)) b) Q (R l) := MF (K := fun s => dv (cG C b Q) (R (hz k s))) hlen (by
   have key : ∀ (os : List cg) (s : aj) (acc : Option (List eC)), cb C s os acc (fun acc s => kO (rB fT) 0 [] (acc.getD []).reverse = true ∧ cG C b Q (R (hz k s))) →
     cb C s os acc (fun acc s => kO (rB fT) 0 [] (acc.getD []).reverse = true ∧ dv (cG C b Q) (R (hz k s))) := by
    intro os
    induction os with
    | nil => intro s acc h; exact ⟨h.1, .inl h.2⟩
    | cons o os ih =>
      intro s acc h
      have mono : ∀ {s : aj} {bu : eX} {K cW : List Nat → I → aj → Prop}, (∀ a b c, K a b c → cW a b c) → mK C s bu K → mK C s bu cW := by
       intro s bu K cW ay h
       cases bu with
       | call f args =>
         obtain ⟨g, caps, ps, r, ab, fE, af, aF, bb, bV, cd, cf, er⟩ := h
         exact ⟨g, caps, ps, r, ab, fE, af, aF, bb, bV, cd, cf, ay _ _ _ er⟩
       | shr bu => obtain ⟨av, s1, ab, af, aF, bb⟩ := h; exact ⟨av, s1, ab, af, aF, ay _ _ _ bb⟩
       | kI f args u x =>
         obtain ⟨bN, b6, g, caps, ps, r, ab, fE, af, aF, bb, bV, cd, cf, er, g1, gp⟩ := h
         exact ⟨bN, b6, g, caps, ps, r, ab, fE, af, aF, bb, bV, cd, cf, er, g1, ay _ _ _ gp⟩
       | kJ f args us =>
         obtain ⟨b6, g, caps, ps, r, ab, fE, af, aF, bb, bV, cd, cf, er, g1⟩ := h
         exact ⟨b6, g, caps, ps, r, ab, fE, af, aF, bb, bV, cd, cf, er, ay _ _ _ g1⟩
       | _ => obtain ⟨av, s1, ab, af⟩ := h; exact ⟨av, s1, ab, ay _ _ _ af⟩
      simp only [cb, lW] at h ⊢
      split
      ·rename_i bO; rw [bO] at h; exact mono (fun _ _ _ => ih _ _) h
      ·rename_i t eO bO
       rw [bO] at h
       simp only at h
       split
       ·rename_i ahc aa
        rw [aa] at h
        simp only at h
        split
        ·rename_i U; rw [if_pos U] at h; exact mono (fun _ _ _ => ih _ _) h
        ·rename_i U; rw [if_neg U] at h; exact ih _ _ h
       ·rename_i aa; rw [aa] at h; exact ih _ _ h
       ·rename_i ab af
        split at h
        ·exact ab _ (by assumption)
        ·exact af (by assumption)
        ·exact h
   exact key _ _ _ h)
theorem bg {c : aA} {a b : J} (al : aG s c = .bool true) (h : cG C a Q s) : cG C (.cond c a b) Q s := by simp only [cG, al, if_true]; exact h
theorem bm {c : aA} {a b : J} (al : aG s c = .bool false) (h : cG C b Q s) : cG C (.cond c a b) Q s := by simp only [cG, al]; exact h
theorem cc {id : Nat} {b : J} (h : ∀ fu : Exit → aj → Prop, (∀ s, Q .normal s → fu .normal s) → (∀ s, Q .ret s → fu .ret s) → (∀ s, Q .normal s → fu (.exit id) s) → (∀ i s, i ≠ id → Q (.exit i) s → fu (.exit i) s) → cG C b fu s) : cG C (.block id b) Q s :=
 h (rq id Q) (fun _ h => h) (fun _ h => h) (fun s h => by simp only [rq, if_true]; exact h) (fun i s ak h => by simp only [rq, if_neg ak]; exact h)
theorem ek {id : Nat} (h : Q (.exit id) s) : cG C (.exit id) Q s := h
theorem a1 (h : Q .ret s) : cG C .ret Q s := h
theorem bt (h : Q .normal s) : cG C .skip Q s := h
def dY (C : bZ) (b : J) (Q : Exit → aj → Prop) (s : aj) : Prop := ∀ Z : aj → Prop, (∀ ao, cG C b (andThen (dv Z) Q) ao → Z ao) → Z s
theorem eD {b : J} (h : dv (dY C b Q) s) : cG C (.loop b) Q s := h
theorem eE {b : J} (h : ∀ fu : Exit → aj → Prop, (∀ s, dv (dY C b Q) s → fu .normal s) → (∀ s, Q .ret s → fu .ret s) → (∀ i s, Q (.exit i) s → fu (.exit i) s) → cG C b fu s) : dY C b Q s := by
 intro Z ru
 refine ru s (AE b ?_ (h (andThen (dv (dY C b Q)) Q) (fun _ h => h) (fun _ h => h) (fun _ _ h => h)))
 intro e ao bq
 cases e with
 | normal => exact rr (fun s h => h Z ru) ao bq
 | _ => exact bq
theorem bJ {dn : List (Nat × I)} (h : dn.map (·.2) = dn.map fun p => s p.1) : rp s dn := by
 intro p an
 left
 induction dn with
 | nil => cases an
 | cons a dn ih =>
   simp only [List.map_cons, List.cons.injEq] at h
   rcases List.mem_cons.1 an with rfl | an
   ·exact h.1
   ·exact ih h.2 an
end
section
variable {C : bZ} {l : List (Nat × I)} {Q : Exit → aj → Prop} {s : aj} {os ros : List cg} {K : Option (List eC) → aj → Prop} {dst : Option Nat}
theorem Fi (l : List (Nat × I)) : (∀ n, aG (R l) (.t n) = hU n (R l n)) ∧ (∀ av, aG (R l) (.c av) = av) ∧ (∀ g, aG (R l) (.f g) = .fn g []) := ⟨fun _ => rfl, fun _ => rfl, fun _ => rfl⟩
theorem Fj : (∀ t, R [] t = .hole) ∧ (∀ u d (l : List (Nat × I)) t, R ((u, d) :: l) t = if t = u then d else R l t) := ⟨fun _ => rfl, fun _ _ _ _ => rfl⟩
theorem Fk (s : aj) : hz [] s = [] ∧ (∀ t k, hz (t :: k) s = (t, s t) :: hz k s) := ⟨rfl, fun _ _ => rfl⟩
theorem Fl (s : aj) : (∀ d, cy s (some d) = some (d, s)) ∧ (∀ s1, dT (some s1) = some (.hole, s1)) ∧ g4 s [] = [] ∧ (∀ x xs, g4 s (x :: xs) = aG s x :: g4 s xs) ∧ iQ s [] = [] ∧ (∀ k x xs, iQ s ((k, x) :: xs) = (k, aG s x) :: iQ s xs) ∧
  jL s none = none ∧ (∀ x, jL s (some x) = some (aG s x)) ∧ (∀ b x y, oJ s (.bool b) x y = some (if b = true then x else y, s)) :=
 ⟨fun _ => rfl, fun _ => rfl, rfl, fun _ _ => rfl, rfl, fun _ _ _ => rfl, rfl, fun _ => rfl, fun b _ _ => by cases b <;> rfl⟩
theorem Fm (C : bZ) : (∀ e d, A0 C (.slice e) (some d) = if (C.T e).ok = true ∧ d.wd = (C.T e).sz then some (.ref d) else none) ∧
  (∀ y q n e sz xs, tL C y q n (.slice e) (some (.aE sz xs)) = if (b5 xs n).isSome = true ∧ (C.T e).ok = true ∧ sz = (C.T e).sz then some (.an y (q ++ [n.toNat])) else none) ∧
  (∀ e s xs t, rZ C (.slice e) s xs (some t) = if (C.T e).ok = true ∧ ∀ d ∈ xs, d.wd = (C.T e).sz then some (.slice t, s) else none) :=
 ⟨fun _ _ => rfl, fun _ _ _ _ _ _ => rfl, fun _ _ _ _ => rfl⟩
theorem Fo : (∀ b, AY .bool b = some (.bool b)) ∧ (∀ c, AZ .str (some c) = some (.int .u8 c.toNat)) ∧ (∀ s t, rY .str s (some t) = some (.str t, s)) ∧ (∀ q d, tM q (some d) = I.sub q d) :=
 ⟨fun _ => rfl, fun _ => rfl, fun _ _ => rfl, fun _ _ => rfl⟩
theorem Fp (sz bytes : Nat) (z : I) : (∀ k, fR.ok ⟨.int k, sz, bytes, z⟩ = true) ∧ fR.ok ⟨.bool, sz, bytes, z⟩ = true ∧ fR.ok ⟨.str, sz, bytes, z⟩ = true ∧ (∀ e, fR.ok ⟨.ptr e, sz, bytes, z⟩ = true) ∧ (∀ e, fR.ok ⟨.slice e, sz, bytes, z⟩ = true) ∧ (∀ e, fR.ok ⟨.struct e, sz, bytes, z⟩ = true) ∧ fR.ok ⟨.fn, sz, bytes, z⟩ = true := by
 simp [fR.ok]
theorem Fq (sz bytes : Nat) (z : I) : (∀ k, fR.flat ⟨.int k, sz, bytes, z⟩ = true) ∧ fR.flat ⟨.bool, sz, bytes, z⟩ = true ∧ fR.flat ⟨.str, sz, bytes, z⟩ = true ∧ (∀ e, fR.flat ⟨.ptr e, sz, bytes, z⟩ = true) ∧ (∀ e, fR.flat ⟨.slice e, sz, bytes, z⟩ = true) ∧ (∀ e, fR.flat ⟨.struct e, sz, bytes, z⟩ = false) ∧ fR.flat ⟨.fn, sz, bytes, z⟩ = true := by
 simp [fR.flat]
theorem tN (c : UInt8) (k : IntKind) (ay : k ≠ .i8) : k.wrap (c.toNat : Int) = (c.toNat : Int) := by
 have := c.toNat_lt
 cases k <;> first | (exact (ay rfl).elim) | (simp [IntKind.wrap, IntKind.bits, IntKind.signed]; try omega)
theorem A3 (c : UInt8) : IntKind.i64.wrap (c.toNat : Int) = (c.toNat : Int) ∧ IntKind.u64.wrap (c.toNat : Int) = (c.toNat : Int) ∧ IntKind.u8.wrap (c.toNat : Int) = (c.toNat : Int) ∧ IntKind.i32.wrap (c.toNat : Int) = (c.toNat : Int) ∧ IntKind.u32.wrap (c.toNat : Int) = (c.toNat : Int) :=
 ⟨tN c _ (by simp), tN c _ (by simp), tN c _ (by simp), tN c _ (by simp), tN c _ (by simp)⟩
theorem b3 {k : List Nat} {K : aj → Prop} (dn : List (Nat × I)) (h : ∀ P : List (Nat × I) → Prop, P dn → cb C (R l) ros none (fun _ s => P (hz k s))) (ay : K (R dn)) : cb C (R l) ros none (fun _ s => K (R (hz k s))) :=
 h (fun l => K (R l)) ay
theorem kR {k : List Nat} {kP : List (List Nat)} {K : aj → Prop} (dn : List (Nat × I)) (h : ∀ P : List (Nat × I) → Prop, P dn → cb C (R l) ros (some []) (fun acc s => kO kP 0 [] (acc.getD []).reverse = true ∧ P (hz k s))) (ay : K (R dn)) :
  cb C (R l) ros (some []) (fun acc s => kO kP 0 [] (acc.getD []).reverse = true ∧ K (R (hz k s))) :=
 h (fun l => K (R l)) ay
theorem aU.MU (bp : C.Ok) {f : FuncId} {fn : Func} {c : Code} {c2 : J} {fx : List Nat} {as outs : List I} {r : I} (bB : C.P.funcs[f]? = some fn) (U : fn.body = some c)
  (jJ : (fn.name == "runtime.NumGoroutine") = false) (aa : bQ ⟨fn.ntmps, fx⟩ c = some c2.strip) (bl : as.length ≤ fn.ntmps)
  (h : ∀ Q : Exit → aj → Prop, (∀ s, dv (Ends C fx fn.results.toList r outs) s → Q .ret s) → (∀ s, dv (Ends C fx fn.results.toList r outs) s → Q .normal s) → cG C c2 Q (R (num 0 as))) (an : c2.plain = true := by kernel_rfl) : aU C f as r outs := by
 refine aU.of_wp bp bB U jJ aa bl ?_ an
 rw [wL]
 exact h _ (fun s h => ⟨.inr rfl, h⟩) (fun s h => ⟨.inl rfl, h⟩)
def MV : List I → I
 | [d] => d
 | ds => .tuple ds
theorem a2 {fx : List Nat} {fL : List ResultVar} {r : I} {outs : List I} (ds : List I) (ab : fL.map (oG C s) = ds.map some) (af : r = MV ds) (aF : (fL.map ix).Nodup)
  (bb : ∀ (i : Nat) (o : I), outs[i]? = some o → o = .hole ∨ (o = s i ∧ o.fq = true ∧ i ∈ fx ∧ i ∉ fL.map ix)) : Ends C fx fL r outs s := ⟨ds, ab, by subst af; cases ds with | nil => rfl | cons a t => cases t <;> rfl, aF, bb⟩
theorem ba {fx : List Nat} {fL : List ResultVar} : ∀ (i : Nat) (o : I), ([] : List I)[i]? = some o → o = .hole ∨ (o = s i ∧ o.fq = true ∧ i ∈ fx ∧ i ∉ fL.map ix) := fun i o h => by simp at h
theorem Fs : ∀ (as ds : List I), (kr as ds).filter (·.g) = []
 | [], _ => rfl
 | _ :: _, [] => rfl
 | a :: as, d :: ds => by simp only [kr, List.filter_cons]; exact Fs as ds
theorem wT {f : aA} {args : List aA} {g : FuncId} {caps : List I} {K : List Nat → I → aj → Prop} (ds : List I) (r : I)
  (ab : aG (R l) f = .fn g caps) (fE : I.e2 caps = true) (hV : views (R l) (g4 (R l) args ++ caps) = some ds)
  (bV : aU C g ds r []) (cd : r.res = true) (cf : I.dc (g4 (R l) args ++ caps) = [] ∨ r.c8 = true) (i2 : K [] r (R l)) : mK C (R l) (.call f args) K := by
 obtain ⟨aJ, aP, a_, cD, c4, b8, b2⟩ := L_ _ _ hV
 refine ⟨g, caps, kr (g4 (R l) args ++ caps) ds, r, ab, fE, by rw [aJ, tK], fun p an => (a_ p an).1, cD, by rw [aP]; exact bV.outs c4.symm, cd, ?_, by rw [b8, b2, Fs]; exact i2⟩
 intro hl
 refine ⟨?_, fun p an => by rw [(a_ p an).2.2.1]; rfl⟩
 rcases cf with cf | cf
 ·exfalso
  simp only [i1, List.any_eq_true] at hl
  obtain ⟨p, an, fj⟩ := hl
  have hm := (a_ p an).2.2.2
  have : p.a.aa = [] := by
   have key : ∀ (as : List I) (a : I), a ∈ as → I.dc as = [] → a.aa = [] := by
    intro as
    induction as with
    | nil => intro a h; cases h
    | cons b as ih =>
      intro a h he
      simp only [I.dc, List.append_eq_nil_iff] at he
      rcases List.mem_cons.1 h with rfl | h
      ·exact he.1
      ·exact ih a h he.2
   exact key _ _ hm cf
  rw [this] at fj; simp at fj
 ·exact cf
theorem fv {f : aA} {args : List aA} {g : FuncId} {caps : List I} {ds : List I} {r : I} (bV : aU C g ds r [])
  (ab : aG (R l) f = .fn g caps) (fE : I.e2 caps = true) (hV : views (R l) (g4 (R l) args ++ caps) = some ds)
  (cd : r.res = true) (cf : I.dc (g4 (R l) args ++ caps) = [] ∨ r.c8 = true)
  (i2 : cb C (fin (R l) dst r) os none K) : cb C (R l) (⟨dst, .call f args, none⟩ :: os) none K := by
 simp only [cb, lW, nS]
 exact wT ds r ab fE hV bV cd cf i2
theorem nn {a : List eC} {f : aA} {args : List aA} {g : FuncId} {caps : List I} {ds : List I} {r : I} (bV : aU C g ds r [])
  (ab : aG (R l) f = .fn g caps) (fE : I.e2 caps = true) (hV : views (R l) (g4 (R l) args ++ caps) = some ds)
  (cd : r.res = true) (cf : I.dc (g4 (R l) args ++ caps) = [] ∨ r.c8 = true)
  (i2 : cb C (fin (R l) dst r) os (some (hA (R l) (use (R l) (.call f args)) dst [] r :: a)) K) : cb C (R l) (⟨dst, .call f args, none⟩ :: os) (some a) K := by
 simp only [cb, lW, nS]
 exact wT ds r ab fE hV bV cd cf i2
theorem g5 {t : Nat} {b : Bool} {f : aA} {args : List aA} {g : FuncId} {caps : List I} {ds : List I} {r : I} (bV : aU C g ds r [])
  (ab : aG (R l) f = .fn g caps) (fE : I.e2 caps = true) (hV : views (R l) (g4 (R l) args ++ caps) = some ds)
  (cd : r.res = true) (cf : I.dc (g4 (R l) args ++ caps) = [] ∨ r.c8 = true)
  (i2 : cb C (fin (R l) dst r) os none K) : ca C l dst (.call f args) t b os none K (.bool b) := by
 simp only [ca, if_true]
 exact wT ds r ab fE hV bV cd cf i2
theorem Ft {a : List eC} {t : Nat} {b : Bool} {f : aA} {args : List aA} {g : FuncId} {caps : List I} {ds : List I} {r : I} (bV : aU C g ds r [])
  (ab : aG (R l) f = .fn g caps) (fE : I.e2 caps = true) (hV : views (R l) (g4 (R l) args ++ caps) = some ds)
  (cd : r.res = true) (cf : I.dc (g4 (R l) args ++ caps) = [] ∨ r.c8 = true)
  (i2 : cb C (fin (R l) dst r) os (some (hA (R l) (t :: use (R l) (.call f args)) dst [] r :: a)) K) : ca C l dst (.call f args) t b os (some a) K (.bool b) := by
 simp only [ca, if_true]
 exact wT ds r ab fE hV bV cd cf i2
theorem hL (s : aj) : views s [] = some [] ∧ (∀ d ds, views s (d :: ds) = (match view s d, views s ds with | some a, some b => some (a :: b) | _, _ => none)) ∧
  (∀ k n, view s (.int k n) = some (.int k n)) ∧ (∀ b, view s (.bool b) = some (.bool b)) ∧ (∀ x, view s (.str x) = some (.str x)) ∧ (∀ x, view s (.slice x) = some (.slice x)) ∧ (∀ x, view s (.ref x) = some (.ref x)) ∧
  view s .bA = some .bA ∧ view s .c7 = some .c7 ∧ (∀ aw, view s (.agg aw) = some (.agg aw)) ∧ (∀ f cap, view s (.fn f cap) = (views s cap).map (.fn f)) := by
 refine ⟨rfl, fun d ds => ?_, fun _ _ => rfl, fun _ => rfl, fun _ => rfl, fun _ => rfl, fun _ => rfl, rfl, rfl, fun _ => rfl, fun _ _ => by simp only [view]⟩
 simp only [views]; rfl
theorem eY {α : Type} {u e : α → I} (h : ∀ x, (u x).share = e x) (xs : List α) : I.shares (xs.map u) = xs.map e := by
 rw [I.ph]; simp [h]
theorem oK {α : Type} {u : α → I} (h : ∀ x, (u x).c8 = true) (xs : List α) : I.h_ (xs.map u) = true := by
 induction xs with
 | nil => rfl
 | cons x xs ih => simp only [List.map_cons, I.h_, h, ih, Bool.and_self]
def oL (s : aj) (H : List Nat) : List (Nat × I) → Prop
 | [] => True
 | p :: l => (p.2 = s p.1 ∨ ((s p.1).tree = true ∧ dX (s p.1) p.2 ∧ p.1 ∉ H)) ∧ oL s H l
theorem p3 {dn : List (Nat × I)} (H : List Nat) (iw : I.dc (dn.map (·.2)) = H) (h : oL s H dn) : rp s dn := by
 have key : ∀ (gE : List (Nat × I)), oL s H gE → ∀ p ∈ gE, p.2 = s p.1 ∨ ((s p.1).tree = true ∧ dX (s p.1) p.2 ∧ p.1 ∉ H) := by
  intro gE
  induction gE with
  | nil => intro _ p an; cases an
  | cons a gE ih =>
    intro h p an
    rcases List.mem_cons.1 an with rfl | an
    ·exact h.1
    ·exact ih h.2 p an
 have aa : ∀ (gE : List (Nat × I)), ∀ b9 ∈ gE, ∀ u ∈ b9.2.aa, u ∈ I.dc (gE.map (·.2)) := by
  intro gE
  induction gE with
  | nil => intro p an; cases an
  | cons a gE ih =>
    intro p an u hu
    simp only [List.map_cons, I.dc, List.mem_append]
    rcases List.mem_cons.1 an with rfl | an
    ·exact .inl hu
    ·exact .inr (ih p an u hu)
 intro p an
 rcases key _ h p an with ab | ⟨ab, af, aF⟩
 ·exact .inl ab
 ·refine .inr ⟨ab, af, fun b9 dA => .inl fun hm => aF ?_⟩
  rw [← iw]; exact aa dn b9 dA _ hm
theorem p4 {H : List Nat} : oL s H [] := trivial
theorem kt {H : List Nat} {t : Nat} {d : I} {dn : List (Nat × I)} (h : d = s t) (hl : oL s H dn) : oL s H ((t, d) :: dn) := ⟨.inl h, hl⟩
theorem p5 {H : List Nat} {t : Nat} {d br : I} {dn : List (Nat × I)} (e : s t = d) (aZ : d.tree = true) (ah : dX d br) (iw : t ∉ H) (hl : oL s H dn) : oL s H ((t, br) :: dn) := ⟨.inr ⟨by rw [e]; exact aZ, by rw [e]; exact ah, iw⟩, hl⟩
theorem Fu {a b : I} (h : dX a b) : ∀ n, iP (List.replicate n a) (List.replicate n b)
 | 0 => .nil
 | n + 1 => by simp only [List.replicate_succ]; exact .cons h (Fu h n)
theorem A4 {α : Type} {sz : Nat} {u : α → I} {z : α} {a : I} (h : dX a (u z)) (n : Nat) : dX (.aE sz (List.replicate n a)) (.aE sz ((List.replicate n z).map u)) := by
 rw [List.map_replicate]; exact .aE (Fu h n)
end
theorem Fv {C : bZ} {A B : TypeId} {cE : IntKind} (hx : (C.T A).ok = true) (gj : (C.T B).k = .int cE) : ∀ s k n, eP C s A B (.int k n) = some (.int cE (cE.wrap n)) := fun s k n => MT C s A B k cE n hx gj
def Fw : Option I → Option I
 | some (.aE 1 xs) => (bytesOf xs).map .str
 | _ => none
theorem Fx {C : bZ} {A B e : TypeId} (hx : (C.T A).k = .slice e) (gj : (C.T B).k = .str) (he : (C.T e).k = .int .u8) :
  (∀ s xs, eP C s A B (.slice xs) = (bytesOf xs).map .str) ∧ (∀ s, eP C s A B .bA = some (.str [])) ∧ (∀ s x q, eP C s A B (.h x q) = Fw (I.sub q (s x))) := by
 have tc : (C.T A).ok = true := by simp [fR.ok, hx]
 refine ⟨fun s xs => ?_, fun s => ?_, fun s x q => ?_⟩
 ·simp only [eP, tc, hx, gj, he, if_true]
 ·simp only [eP, tc, hx, gj, he, if_true]
 ·simp only [eP, tc, hx, gj, he, if_true]
  rfl
theorem Fy (xs : List I) : Fw (some (.aE 1 xs)) = (bytesOf xs).map .str := rfl
theorem Fz (c : UInt8) (r : List I) : bytesOf (iY c :: r) = (bytesOf r).map (c :: ·) := by
 have := c.toNat_lt
 simp only [iY, bytesOf]
 rw [if_pos (by omega)]
 simp
theorem FA : bytesOf [] = some [] ∧ (∀ l : List UInt8, bytesOf (l.map iY) = some l) ∧ (∀ (c : UInt8) r, bytesOf (.int .u8 (c.toNat : Int) :: r) = (bytesOf r).map (c :: ·)) ∧
  (∀ m r, bytesOf (.int .u8 (IntKind.u8.wrap m) :: r) = (bytesOf r).map (nB m :: ·)) :=
 ⟨rfl, J4, fun c r => Fz c r, fun m r => by rw [← Fh]; exact Fz _ r⟩
theorem MW {k : IntKind} {b : Int} (h : b ≠ 0) : ∀ a, hv .quo k a k b = some (.int k (k.wrap (a.tdiv b))) := fun _ => MQ h
theorem FB {k : IntKind} {b : Int} (h : b ≠ 0) : ∀ a, hv .rem k a k b = some (.int k (a.tmod b)) := fun _ => MR h
theorem lh {α : Type} {e : α → I} {n : Nat} (h : ∀ x, (e x).wd = n) : ∀ xs : List α, (∀ d ∈ xs.map e, d.wd = n) = True := MS h
theorem all_cons {P : I → Prop} (d : I) (ds : List I) : (∀ x ∈ d :: ds, P x) = (P d ∧ ∀ x ∈ ds, P x) := by simp
theorem all_nil {P : I → Prop} : (∀ x ∈ ([] : List I), P x) = True := by simp
def FC (a b : List UInt8) : Option Unit → Option I
 | some _ => some (.str (a ++ b))
 | none => none
theorem wU (a b : List UInt8) : k9 .add a b = FC a b (m2 (a.length + b.length)) := by
 simp only [k9, m2]; split <;> rfl
theorem wV (a b : List UInt8) (u : Unit) : FC a b (some u) = some (.str (a ++ b)) := rfl
theorem FD : (∀ l : List Nat, [] ++ l = l) ∧ (∀ a (l m : List Nat), (a :: l) ++ m = a :: (l ++ m)) := ⟨fun _ => rfl, fun _ _ _ => rfl⟩
def FE (C : bZ) (e bx : TypeId) : Bool := (C.T e).ok && ((C.T e).zero.wd == (C.T e).sz) && (flat (C.T e).zero).isSome && wg C e bx
def wW (C : bZ) (e : TypeId) (xs : List I) : Option (List I × aj) → Option (I × aj)
 | some (bT, s2) => if (∀ d ∈ bT, d.wd = (C.T e).sz) ∧ (room (C.T e).bytes (xs.length + bT.length)).isSome = true then some (.aE (C.T e).sz (xs ++ bT), s2) else none
 | none => none
def A5 (C : bZ) (e : TypeId) (y : I) (o : Option Nat) : Option (I × aj) → Option (I × aj)
 | some (.aE sz xs, s1) => if sz = (C.T e).sz then wW C e xs (jG s1 (jf o y)) else none
 | _ => none
theorem MX (b n : Nat) : (room b n).isSome = true ↔ n * b ≤ 140737488355328 ∧ n ≤ 9223372036854775807 := by unfold room; split <;> simp_all
theorem oM {C : bZ} {T bx e : TypeId} (kG : (C.T T).k = .slice e) (fs : FE C e bx = true) : ∀ s x y, kn C s T bx x y = A5 C e y x.owner (ng C e s x) := by
 intro s x y
 simp only [FE, Bool.and_eq_true, beq_iff_eq] at fs
 rw [Ae, kG]
 simp only
 rw [if_pos ⟨fs.1.1.1, fs.1.1.2, fs.1.2, fs.2⟩]
 generalize x.owner = o
 cases ng C e s x with
 | none => rfl
 | some p =>
   obtain ⟨d, s1⟩ := p
   cases d <;> first
    | rfl
    | (simp only [A5]
       split
       ·rename_i h; subst h
        generalize jG s1 (jf o y) = z
        cases z with
        | none => rfl
        | some p => simp only [wW, MX]
       ·rfl)
def FF : Option (I × aj) → Option (List I × aj)
 | some (.aE _ bT, s2) => some (bT, s2)
 | _ => none
theorem oN (s : aj) : jG s .bA = some ([], s) ∧ (∀ bT, jG s (.slice bT) = some (bT, s)) ∧ (∀ l, jG s (.str l) = some (l.map iY, s)) ∧
  (∀ a q, jG s (.h a q) = FF (ct s (.h a q))) ∧ (∀ n bT, FF (some (.aE n bT, s)) = some (bT, s)) :=
 ⟨rfl, fun _ => rfl, fun _ => rfl, fun _ _ => by simp only [jG]; rfl, fun _ _ => rfl⟩
theorem oO (C : bZ) (e : TypeId) : (∀ s, ng C e s .bA = some (.aE (C.T e).sz [], s)) ∧ (∀ s a q, ng C e s (.h a q) = ct s (.h a q)) ∧
  (∀ y o sz xs s1, A5 C e y o (some (.aE sz xs, s1)) = if sz = (C.T e).sz then wW C e xs (jG s1 (jf o y)) else none) ∧
  (∀ xs bT s2, wW C e xs (some (bT, s2)) = if (∀ d ∈ bT, d.wd = (C.T e).sz) ∧ (room (C.T e).bytes (xs.length + bT.length)).isSome = true then some (.aE (C.T e).sz (xs ++ bT), s2) else none) :=
 ⟨fun _ => rfl, fun _ _ _ => rfl, fun _ _ _ _ _ => rfl, fun _ _ _ => rfl⟩
theorem oP : (∀ d, jf none d = d) ∧ (∀ x d, jf (some x) d = bW x d) ∧ (∀ x q, I.owner (.h x q) = some x) ∧ I.owner .bA = none :=
 ⟨fun _ => rfl, fun _ _ => rfl, fun _ _ => rfl, rfl⟩
def FG (s : aj) (x : Nat) (q : List Nat) : Option I → Option (I × aj)
 | some d => if d.plain = true then none else some (d, cY (hp x s) x (I.put q d.cH (s x)))
 | none => none
theorem FH (s : aj) (x : Nat) (q : List Nat) : ct s (.h x q) = FG s x q (I.sub q (s x)) := by
 simp only [ct]; cases I.sub q (s x) <;> rfl
theorem FI (s : aj) : (∀ x q d, FG s x q (some d) = if d.plain = true then none else some (d, cY (hp x s) x (I.put q d.cH (s x)))) ∧ (∀ k n, ct s (.int k n) = some (.int k n, s)) ∧ (∀ b, ct s (.bool b) = some (.bool b, s)) ∧ (∀ x, ct s (.str x) = some (.str x, s)) ∧
  (∀ x, ct s (.slice x) = some (.slice x, s)) ∧ (∀ x, ct s (.ref x) = some (.ref x, s)) ∧ (∀ x, ct s (.agg x) = some (.agg x, s)) ∧ ct s .bA = some (.bA, s) ∧ ct s .c7 = some (.c7, s) :=
 ⟨fun _ _ _ => rfl, fun _ _ => rfl, fun _ => rfl, fun _ => rfl, fun _ => rfl, fun _ => rfl, fun _ => rfl, rfl, rfl⟩
theorem FJ (l : List (Nat × I)) (t : Nat) (d : I) : cY (R l) t d = R ((t, d) :: l) := jK l t d
theorem FK : (∀ n x, I.cH (.aE n x) = .hole) ∧ (∀ x, I.cH (.bd x) = .hole) ∧ (∀ aw, I.cH (.agg aw) = .agg (I.jx aw)) ∧ (∀ aw, I.cH (.tuple aw) = .tuple (I.jx aw)) ∧ I.jx [] = [] ∧ (∀ d ds, I.jx (d :: ds) = d.cH :: I.jx ds) ∧
  (∀ k n, I.cH (.int k n) = .int k n) ∧ (∀ b, I.cH (.bool b) = .bool b) ∧ (∀ x, I.cH (.str x) = .str x) ∧ (∀ x, I.cH (.slice x) = .slice x) ∧ (∀ x, I.cH (.ref x) = .ref x) ∧ I.cH .bA = .bA ∧ I.cH .c7 = .c7 ∧ I.cH .hole = .hole := by
 simp [I.cH, I.jx]
def p6 : Option I → Option I
 | some d => (match d with | .tuple _ => none | d => if d.plain = true then none else some d.share)
 | none => none
def p7 : Option I → Option I
 | some d => (match d with | .tuple _ => none | d => some (.ref d.share))
 | none => none
theorem hM (s : aj) (x : Nat) (q : List Nat) : view s (.h x q) = p6 (I.sub q (s x)) ∧ view s (.an x q) = (if I.ez q (s x) = true then p7 (I.sub q (s x)) else none) := by
 constructor
 ·simp only [view]; rfl
 ·simp only [view]; rfl
theorem hN : (∀ n xs, p6 (some (.aE n xs)) = some (.slice (I.shares xs))) ∧ (∀ d, p6 (some (.bd d)) = some (.ref d.share)) ∧ (∀ aw, p6 (some (.agg aw)) = if I.e2 aw = true then none else some (.agg (I.shares aw))) ∧
  (∀ aw, p7 (some (.agg aw)) = some (.ref (.agg (I.shares aw)))) ∧ (∀ k n, p7 (some (.int k n)) = some (.ref (.int k n))) ∧ (∀ x, p7 (some (.str x)) = some (.ref (.str x))) :=
 ⟨fun _ _ => by simp [p6, I.plain, I.share], fun _ => by simp [p6, I.plain, I.share], fun aw => by cases h : I.e2 aw <;> simp [p6, I.plain, I.share, h], fun _ => by simp [p7, I.share], fun _ _ => by simp [p7, I.share], fun _ => by simp [p7, I.share]⟩
theorem eg : (∀ n xs, I.share (.aE n xs) = .slice (I.shares xs)) ∧ (∀ d, I.share (.bd d) = .ref d.share) ∧ (∀ xs, I.share (.slice xs) = .slice (I.shares xs)) ∧ (∀ d, I.share (.ref d) = .ref d.share) ∧ (∀ aw, I.share (.agg aw) = .agg (I.shares aw)) ∧ (∀ aw, I.share (.tuple aw) = .tuple (I.shares aw)) ∧
  (∀ k n, I.share (.int k n) = .int k n) ∧ (∀ b, I.share (.bool b) = .bool b) ∧ (∀ x, I.share (.str x) = .str x) ∧ I.share .bA = .bA ∧ I.share .c7 = .c7 ∧ I.shares [] = [] ∧ (∀ d ds, I.shares (d :: ds) = d.share :: I.shares ds) := by
 simp [I.share, I.shares]
theorem e6 : (∀ k n, I.owner (.int k n) = none) ∧ (∀ b, I.owner (.bool b) = none) ∧ (∀ x, I.owner (.str x) = none) ∧ (∀ x, I.owner (.slice x) = none) ∧ (∀ x, I.owner (.ref x) = none) ∧ (∀ x, I.owner (.agg x) = none) ∧ I.owner .c7 = none ∧ I.owner .bA = none ∧ (∀ x q, I.owner (.h x q) = some x) :=
 ⟨fun _ _ => rfl, fun _ => rfl, fun _ => rfl, fun _ => rfl, fun _ => rfl, fun _ => rfl, rfl, rfl, fun _ _ => rfl⟩
end Go.cB
