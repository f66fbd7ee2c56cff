/- Part of a proof that a law returns true for every input. No condition. -/
import Derived.Test.YtbemmmimelklkaaGreatFwE
import Derived.Orders
import Derived.KernelRfl
import Derived.Test.YtbemmmimelklkaaGreatFwA
namespace Go.dg
section
variable {C : cn} {w0 w : World} {F0 X : Nat → Prop} {n : Fr} {ρ : Nat → Value} {s s1 : au} {a : Act} {av : I} {Q : Exit → Act → World → Prop}
def cI.un (o : cI) : cI := ⟨o.dst, o.bM.base, o.guard⟩
theorem wi {ops : Array Oper} : ∀ {os : List Oper} {rs : List cI}, oX n ops os = some rs → os.length = rs.length ∧ ∀ (i : Nat) (o : Oper), os[i]? = some o → ∃ r, rs[i]? = some r ∧ oW n ops o = some r := by
 intro os
 induction os with
 | nil => intro rs h; simp only [oX, Option.some.injEq] at h; subst h; exact ⟨rfl, fun i o h => by simp at h⟩
 | cons o os ih =>
   intro rs h
   simp only [oX] at h
   split at h
   ·rename_i r auU ai aj
    simp only [Option.some.injEq] at h; subst h
    obtain ⟨b8, cu⟩ := ih aj
    refine ⟨by simp [b8], fun i mE cm => ?_⟩
    cases i with
    | zero => simp at cm; subst cm; exact ⟨r, rfl, ai⟩
    | succ i => simpa using cu i mE (by simpa using cm)
   ·cases h
theorem zo {o : Oper} {y : Nat → Option Bool} (h : o.guard = none) : Region.wanted o y = true := by simp [Region.wanted, h]
theorem PO (h : Rel w0 F0 X n ρ s a w) {ops : Array Oper} {j t : Nat} (cx : (ops[j]?).bind (·.dst) = some t) :
  (∀ b, s t = .bool b → yielded ops a.tmps j = some b) ∧ (s t = .tuple [] → yielded ops a.tmps j = none) := by
 obtain ⟨al, ah, bF, F, S, a7⟩ := h
 have i0 := a7.en t
 refine ⟨fun b ae => ?_, fun ae => ?_⟩
 ·rw [ae] at i0
  have a2 := rm i0
  simp only [yielded, cx, Option.bind_some]
  rw [Array.getD_eq_getD_getElem?] at a2
  cases b6 : a.tmps[t]? with
  | none => rw [b6] at a2; simp [undef] at a2
  | some v => rw [b6] at a2; simp at a2; subst a2; rfl
 ·rw [ae] at i0
  obtain ⟨⟨arr, ai, aj⟩, _⟩ := (aV.da (d := .tuple []) rfl).1 i0
  simp only [yielded, cx, Option.bind_some]
  rw [Array.getD_eq_getD_getElem?] at ai
  cases b6 : a.tmps[t]? with
  | none => rfl
  | some v => rw [b6] at ai; simp at ai; subst ai; rfl
theorem DW (bA : C.fo) {ops : Array Oper} {ros : List cI} {l2 : List Nat} {K : au → Prop} (bd : ∀ az cS aS, K az → Rel w0 F0 X n ρ az cS aS → wpOps C.P ops Q l2 cS aS) :
  ∀ (l : List Nat), (∀ i ∈ l, (ops[i]? = none → ros[i]? = none) ∧ ∀ o, ops[i]? = some o → ∃ r, ros[i]? = some r ∧ oW n ops o = some r.un) →
  ∀ (s : au) (a : Act) (w : World), jC C ros s l K → Rel w0 F0 X n ρ s a w → wpOps C.P ops Q (l ++ l2) a w := by
 intro l
 induction l with
 | nil => intro _ s a w h a7; exact bd s a w h a7
 | cons i l ih =>
   intro oY s a w h a7
   replace ih := ih fun i ar => oY i (List.mem_cons_of_mem _ ar)
   rw [List.cons_append]
   simp only [wpOps]
   cases cm : ops[i]? with
   | none =>
     simp only [jC, (oY i (by simp)).1 cm] at h
     exact ih s a w h a7
   | some o =>
     obtain ⟨r, ai, aj⟩ := (oY i (by simp)).2 o cm
     simp only [jC, ai] at h
     show (if Region.wanted o (yielded ops a.tmps) = true then o.wp C.P a w (wpOps C.P ops Q (l ++ l2)) Q ∨ (o.asks C.P a w ∧ LetsOut Q) else wpOps C.P ops Q (l ++ l2) (a.put o.dst undef) w)
     simp only [oW] at aj
     split at aj
     ·rename_i zp
      split at aj
      ·rename_i g b6
       obtain ⟨rd, bM, rg⟩ := r
       simp only [cI.un, Option.some.injEq, cI.mk.injEq] at aj
       obtain ⟨rfl, cQ, rfl⟩ := aj
       simp only [lj] at h
       have run : ∀ (dt : au → Prop), (∀ az, dt az → jC C ros az l K) → ni C s bM (fun av s1 => dt (fin s1 o.dst av)) → o.wp C.P a w (wpOps C.P ops Q (l ++ l2)) Q :=
        fun dt jc hw => PM bA a7 cQ zp hw (fun az cS aS aE fa => ih az cS aS (jc az aE) fa)
       cases tH : o.guard with
       | none =>
         rw [tH] at b6
         simp only [wa, Option.some.injEq] at b6; subst b6
         simp only at h
         rw [if_pos (zo tH)]
         exact .inl (run _ (fun _ h => h) h)
       | some DX =>
         obtain ⟨j, b⟩ := DX
         rw [tH] at b6
         simp only [wa] at b6
         split at b6
         ·rename_i t bh
          simp only [Option.some.injEq] at b6; subst b6
          simp only at h
          obtain ⟨fp, g6⟩ := PO a7 bh
          have HO : ∀ (dt : jC C ros (fin s o.dst (.tuple [])) l K), wpOps C.P ops Q (l ++ l2) (a.put o.dst undef) w := fun dt => ih _ _ _ dt (Rel.skip a7 zp)
          split at h
          ·rename_i fU ah
           have bL := fp fU ah
           split at h
           ·rename_i ae; subst ae
            rw [if_pos (by simp [Region.wanted, tH, bL])]
            exact .inl (run _ (fun _ h => h) h)
           ·rename_i ae
            rw [if_neg (by simp [Region.wanted, tH, bL, ae])]
            exact HO h
          ·rename_i ah
           have bL := g6 ah
           rw [if_neg (by simp [Region.wanted, tH, bL])]
           exact HO h
          ·exact h.elim
         ·cases b6
      ·cases aj
     ·cases aj
theorem HP (bA : C.fo) {ops : Array Oper} {ros : List cI} (qn : oX n ops ops.toList = some (ros.map cI.un)) {K : au → Prop} (bd : ∀ az cS aS, K az → Rel w0 F0 X n ρ az cS aS → Q .normal cS aS) :
  ∀ (l : List Nat) (s : au) (a : Act) (w : World), jC C ros s l K → Rel w0 F0 X n ρ s a w → wpOps C.P ops Q l a w := by
 obtain ⟨hl, oY⟩ := wi qn
 intro l s a w h a7
 have := DW (Q := Q) bA (ros := ros) (ops := ops) (l2 := []) (K := K) (n := n) (ρ := ρ) (w0 := w0) (F0 := F0) (X := X) (fun az cS aS aE fa => bd az cS aS aE fa) l (fun i _ => ⟨fun cm => by
   rw [List.getElem?_eq_none_iff, ← List.length_map (f := cI.un), ← hl]
   have := Array.getElem?_eq_none_iff.1 cm
   simpa using this, fun o cm => by
   obtain ⟨ao, hO, aj⟩ := oY i o (by simpa using cm)
   obtain ⟨r, ai, rfl⟩ : ∃ r, ros[i]? = some r ∧ r.un = ao := by simpa using hO
   exact ⟨r, ai, aj⟩⟩) s a w h a7
 rwa [List.append_nil] at this
theorem Rel.drawn (h : Rel w0 F0 X n ρ s a w) (k : Nat) : Rel w0 F0 X n ρ s a { w with drawn := k } := by
 obtain ⟨ai, aj, bF, F, S, aP⟩ := h
 exact ⟨ai, aj, bF, F, S, aP.grow (fun _ _ => rfl) (Nat.le_refl _) rfl rfl rfl⟩
theorem PQ (bA : C.fo) {id : Nat} {ops : Array Oper} {ros : List cI} (qn : oX n ops ops.toList = some (ros.map cI.un)) {K : au → Prop} (bd : ∀ az cS aS, K az → Rel w0 F0 X n ρ az cS aS → Q .normal cS aS)
  (h : k2 C s ros K) (a7 : Rel w0 F0 X n ρ s a w) : (Code.region id ops false).wp C.P Q a w := by
 refine wp_region (HP bA qn bd _ s a w ?_ a7)
 have := Py C K ros [] s h
 have hl := (wi qn).1
 simp only [List.nil_append, List.length_nil, Nat.add_zero, List.map_id'] at this
 rw [List.length_map] at hl
 rw [← hl] at this
 simpa using this
end
def DY (nZ : List (List Nat)) (l : List Nat) : Prop :=
 l.Nodup ∧ (∀ i, i ∈ l ↔ i < nZ.length) ∧ ∀ u i v, l = u ++ i :: v → ∀ e ∈ (nZ[i]?).getD [], e ∈ u
def nj (ops : Array Oper) : List (List Nat) := ops.toList.map fun o => (o.after.toList.filter fun e => Region.binds .any e).map (·.on)
def wj (nZ : List (List Nat)) : Bool := nZ.zipIdx.all fun p => p.1.all fun e => decide (e < p.2)
theorem PR {nZ : List (List Nat)} (h : wj nZ = true) {i : Nat} {l : List Nat} (ar : nZ[i]? = some l) : ∀ e ∈ l, e < i := by
 intro e he
 simp only [wj, List.all_eq_true] at h
 have := h (l, i) (by rw [List.mem_zipIdx_iff_getElem?]; exact ar) e he
 simpa using this
theorem PS {ops : Array Oper} (ae : wj (nj ops) = true) : ∀ (fuel t : Nat) (gv : Array Bool), gv.size = ops.size → ((List.range ops.size).filter fun i => !gv.getD i true).length ≤ fuel →
  (Region.linearise.go .any ops fuel t gv []).Nodup ∧ (∀ i, i ∈ Region.linearise.go .any ops fuel t gv [] ↔ (i < ops.size ∧ gv.getD i true = false)) ∧
   ∀ u i v, Region.linearise.go .any ops fuel t gv [] = u ++ i :: v → ∀ e ∈ ((nj ops)[i]?).getD [], gv.getD e false = true ∨ e ∈ u := by
 intro fuel
 induction fuel with
 | zero =>
   intro t gv ah hl
   have vO : ((List.range ops.size).filter fun i => !gv.getD i true) = [] := List.length_eq_zero_iff.1 (Nat.le_zero.1 hl)
   refine ⟨by simp [Region.linearise.go], fun i => ?_, fun u i v h => by simp [Region.linearise.go] at h⟩
   simp only [Region.linearise.go, List.reverse_nil, List.not_mem_nil, false_iff, not_and]
   intro ar bF
   have : i ∈ ((List.range ops.size).filter fun i => !gv.getD i true) := List.mem_filter.2 ⟨List.mem_range.2 ar, by rw [bF]; rfl⟩
   rw [vO] at this; cases this
 | succ fuel ih =>
   intro t gv ah hl
   have HQ : ∀ i, i ∈ Region.ready .any ops gv ↔ (i < ops.size ∧ gv.getD i true = false ∧ ∀ e ∈ ((nj ops)[i]?).getD [], gv.getD e false = true) := by
    intro i
    simp only [Region.ready, List.mem_filter, List.mem_range, Bool.and_eq_true, Bool.not_eq_true']
    constructor
    ·rintro ⟨ai, aj, aP⟩
     refine ⟨ai, aj, ?_⟩
     rw [Array.getElem?_eq_getElem ai] at aP
     simp only [Option.map_some, Option.getD_some, Array.all_eq_true_iff_forall_mem] at aP
     simp only [nj, List.getElem?_map, Array.getElem?_toList, Array.getElem?_eq_getElem ai, Option.map_some, Option.getD_some, List.mem_map, List.mem_filter]
     rintro e ⟨x, ⟨aA, DZ⟩, rfl⟩
     have := aP x (by simpa using aA)
     simpa [DZ] using this
    ·rintro ⟨ai, aj, aP⟩
     refine ⟨ai, aj, ?_⟩
     rw [Array.getElem?_eq_getElem ai]
     simp only [Option.map_some, Option.getD_some, Array.all_eq_true_iff_forall_mem]
     simp only [nj, List.getElem?_map, Array.getElem?_toList, Array.getElem?_eq_getElem ai, Option.map_some, Option.getD_some, List.mem_map, List.mem_filter] at aP
     intro x aA
     cases DZ : Region.binds .any x with
     | false => simp
     | true => simpa using aP x.on ⟨x, ⟨by simpa using aA, DZ⟩, rfl⟩
   have hex : (∃ i, i < ops.size ∧ gv.getD i true = false) → Region.ready .any ops gv ≠ [] := by
    rintro ⟨i, ai, aj⟩
    have : ∃ i, (i < ops.size ∧ gv.getD i true = false) ∧ ∀ j, j < i → ¬ (j < ops.size ∧ gv.getD j true = false) := by
     induction i using Nat.strongRecOn with
     | _ i PT =>
       by_cases cx : ∃ j, j < i ∧ (j < ops.size ∧ gv.getD j true = false)
       ·obtain ⟨j, zq, PU, PV⟩ := cx
        exact PT j zq PU PV
       ·exact ⟨i, ⟨ai, aj⟩, fun j PW ay => cx ⟨j, PW, ay⟩⟩
    obtain ⟨k, ⟨b8, cu⟩, fB⟩ := this
    have : k ∈ Region.ready .any ops gv := (HQ k).2 ⟨b8, cu, fun e he => by
     cases cw : (nj ops)[k]? with
     | none => rw [cw] at he; simp at he
     | some l =>
       rw [cw] at he
       have fy := PR ae cw e he
       have := fB e fy
       rw [not_and] at this
       have := this (by omega)
       have mG : e < gv.size := by omega
       simp only [Array.getD_eq_getD_getElem?, Array.getElem?_eq_getElem mG, Option.getD_some] at this ⊢
       simpa using this⟩
    intro e; rw [e] at this; cases this
   have HR : Region.linearise.go .any ops (fuel + 1) t gv [] = (match (Region.ready .any ops gv)[t % (Region.ready .any ops gv).length]? with
    | some i => Region.linearise.go .any ops fuel (t / (Region.ready .any ops gv).length) (gv.setIfInBounds i true) [i]
    | none => []) := rfl
   cases wk : (Region.ready .any ops gv)[t % (Region.ready .any ops gv).length]? with
   | none =>
     have vO : Region.ready .any ops gv = [] := by
      cases a7 : Region.ready .any ops gv with
      | nil => rfl
      | cons a l =>
        rw [a7] at wk
        have := List.getElem?_eq_none_iff.1 wk
        have aj := Nat.mod_lt t (show 0 < (a :: l).length by simp)
        omega
     rw [HR, wk]
     refine ⟨by simp, fun i => ?_, fun u i v h => by simp at h⟩
     simp only [List.not_mem_nil, false_iff]
     intro ar
     exact hex ⟨i, ar⟩ vO
   | some i =>
     have ar := (HQ i).1 (List.mem_of_getElem? wk)
     obtain ⟨D0, HS, PX⟩ := ar
     rw [HR, wk]
     simp only
     rw [linearise_go_acc]
     simp only [List.reverse_singleton, List.singleton_append]
     have qg : ∀ j d, (gv.setIfInBounds i true).getD j d = if j = i then true else gv.getD j d := by
      intro j d
      split
      ·rename_i e; subst e
       simp [Array.getD_eq_getD_getElem?, Array.getElem?_setIfInBounds_self_of_lt (show j < gv.size by omega)]
      ·rename_i e
       simp [Array.getD_eq_getD_getElem?, Array.getElem?_setIfInBounds_ne (fun h => e h.symm)]
     obtain ⟨bc, bG, cB⟩ := ih (t / (Region.ready .any ops gv).length) (gv.setIfInBounds i true) (by simpa using ah) (by
      have fm : ((List.range ops.size).filter fun j => !(gv.setIfInBounds i true).getD j true) = ((List.range ops.size).filter fun i => !gv.getD i true).filter fun j => decide (j ≠ i) := by
       rw [List.filter_filter]
       apply List.filter_congr
       intro j _
       rw [qg]
       by_cases e : j = i <;> simp [e]
      rw [fm]
      have fy : (((List.range ops.size).filter fun i => !gv.getD i true).filter fun j => decide (j ≠ i)).length < ((List.range ops.size).filter fun i => !gv.getD i true).length := by
       rw [List.length_filter_lt_length_iff_exists]
       exact ⟨i, List.mem_filter.2 ⟨List.mem_range.2 D0, by rw [HS]; rfl⟩, by simp⟩
      omega)
     refine ⟨?_, fun j => ?_, ?_⟩
     ·rw [List.nodup_cons]
      refine ⟨fun hm => ?_, bc⟩
      have := ((bG i).1 hm).2
      rw [qg, if_pos rfl] at this; cases this
     ·rw [List.mem_cons, bG, qg]
      by_cases e : j = i
      ·subst e; simp [D0, HS]
      ·simp [e]
     ·intro u j v h e he
      cases u with
      | nil =>
        simp only [List.nil_append, List.cons.injEq] at h
        obtain ⟨rfl, rfl⟩ := h
        exact .inl (PX e he)
      | cons zr u =>
        simp only [List.cons_append, List.cons.injEq] at h
        obtain ⟨rfl, h⟩ := h
        rcases cB u j v h e he with bB | bB
        ·rw [qg] at bB
         split at bB
         ·rename_i gG; subst gG; exact .inr (by simp)
         ·exact .inl bB
        ·exact .inr (by simp [bB])
theorem PY {ops : Array Oper} (ae : wj (nj ops) = true) (t : Nat) : DY (nj ops) (Region.linearise .any ops t) := by
 have HT : ∀ i d, i < ops.size → (Array.replicate ops.size false).getD i d = false := by
  intro i d ar
  simp [Array.getD_eq_getD_getElem?, ar]
 obtain ⟨bc, bG, cB⟩ := PS ae ops.size t (Array.replicate ops.size false) (by simp) (by
  have := List.length_filter_le (fun i => !(Array.replicate ops.size false).getD i true) (List.range ops.size)
  simpa using this)
 have hlen : (nj ops).length = ops.size := by simp [nj]
 refine ⟨bc, fun i => ?_, fun u i v h e he => ?_⟩
 ·rw [hlen]
  rw [show Region.linearise .any ops t = Region.linearise.go .any ops ops.size t (Array.replicate ops.size false) [] from rfl, bG]
  exact ⟨fun h => h.1, fun h => ⟨h, HT i true h⟩⟩
 ·rcases cB u i v h e he with bB | bB
  ·exfalso
   by_cases HU : e < ops.size
   ·rw [HT e false HU] at bB; cases bB
   ·simp [Array.getD_eq_getD_getElem?, HU] at bB
  ·exact bB
def aa : List (Nat × I) → au
 | [], _ => .hole
 | (u, d) :: l, t => if t = u then d else aa l t
mutual
inductive fe : I → I → Prop
 | refl (d : I) : fe d d
 | lG (sz : Nat) : fe .bg (.aw sz [])
 | tI : fe .bg (.slice [])
 | any (b : Bool) : fe (.bool b) .fi
 | share (d : I) : d.tree = true → (∀ vs, d ≠ .tuple vs) → fe d d.share
 | agg {ds es : List I} : jE ds es → fe (.agg ds) (.agg es)
 | a8 {d e : I} : fe d e → fe (.a8 d) (.a8 e)
 | aw {sz : Nat} {ds es : List I} : jE ds es → fe (.aw sz ds) (.aw sz es)
 | tuple {ds es : List I} : jE ds es → fe (.tuple ds) (.tuple es)
 | ref {d e : I} : fe d e → fe (.ref d) (.ref e)
 | trans {d e f : I} : fe d e → fe e f → fe d f
inductive jE : List I → List I → Prop
 | nil : jE [] []
 | cons {d e : I} {ds es : List I} : fe d e → jE ds es → jE (d :: ds) (e :: es)
end
mutual
theorem fe.wd : ∀ {d e : I}, fe d e → e.wd = d.wd
 | _, _, .refl _ => rfl
 | _, _, .lG _ => rfl
 | _, _, .tI => rfl
 | _, _, .any _ => rfl
 | _, _, .share d _ _ => I.yJ d
 | _, _, .agg h => by simp only [I.wd]; exact jE.wd h
 | _, _, .a8 _ => rfl
 | _, _, .aw _ => rfl
 | _, _, .tuple h => by simp only [I.wd]; exact jE.wd h
 | _, _, .ref _ => rfl
 | _, _, .trans h k => (fe.wd k).trans (fe.wd h)
theorem jE.wd : ∀ {ds es : List I}, jE ds es → I.ev es = I.ev ds
 | _, _, .nil => rfl
 | _, _, .cons h ah => by simp only [I.ev]; rw [fe.wd h, jE.wd ah]
end
theorem jE.len {ds es : List I} (h : jE ds es) : es.length = ds.length := by
 induction ds generalizing es with
 | nil => cases h; rfl
 | cons d ds ih => cases h with | cons h ah => simp [ih ah]
theorem jE.all {sz : Nat} {ds es : List I} (h : jE ds es) (al : ∀ d ∈ ds, d.wd = sz) : ∀ d ∈ es, d.wd = sz := by
 induction ds generalizing es with
 | nil => cases h; intro d al; cases al
 | cons d ds ih =>
   cases h with
   | cons h ah =>
     intro x aA
     rcases List.mem_cons.1 aA with rfl | aA
     ·rw [h.wd]; exact al d (by simp)
     ·exact ih ah (fun d hm => al d (by simp [hm])) x aA
section
variable {w0 w : World} {F0 X F : Nat → Prop} {S : Nat → Nat → Prop} {s az : au} {aF : Nat → Value}
def PZ (w : World) (F : Nat → Prop) (_d e : I) (cs : List Value) (S : Nat → Prop) : Prop :=
 ∃ hY hZ : Nat → Prop, (∀ b, hY b → S b) ∧ (∀ b, hZ b → S b) ∧ (∀ b, hZ b → ¬ hY b) ∧ ∀ bV, (∀ b, F b ∨ hY b → bV b) → aC w bV e cs hZ
mutual
theorem aC.n0 : ∀ {d e : I}, fe d e → ∀ {F : Nat → Prop} {cs : List Value} {S : Nat → Prop}, aC w F d cs S → PZ w F d e cs S
 | _, _, .refl _, F, cs, S, h => ⟨fun _ => False, S, fun _ h => h.elim, fun _ h => h, fun _ _ h => h, fun bV bD => aC.mono (fun b ae => bD b (.inl ae)) _ _ _ _ (fun _ h => h) h⟩
 | .bg, _, .lG sz, F, cs, S, h => ⟨fun _ => False, S, fun _ h => h.elim, fun _ h => h, fun _ _ h => h, fun bV bD => by simp only [aC] at h ⊢; exact .inl ⟨trivial, _, h⟩⟩
 | .bg, _, .tI, F, cs, S, h => ⟨fun _ => False, S, fun _ h => h.elim, fun _ h => h, fun _ _ h => h, fun bV bD => by simp only [aC] at h ⊢; exact .inl ⟨trivial, none, 0, h, Nat.zero_le _, fun _ => rfl⟩⟩
 | .bool _, _, .any b, F, cs, S, h => ⟨fun _ => False, S, fun _ h => h.elim, fun _ h => h, fun _ _ h => h, fun bV bD => by simp only [aC] at h ⊢; exact ⟨b, h⟩⟩
 | _, _, .share d _ _, F, cs, S, h => ⟨S, fun _ => False, fun _ h => h, fun _ h => h.elim, fun _ h => h.elim, fun bV bD => aC.shared (fun b ae => bD b (.inl ae)) d cs S (fun b ae => bD b (.inr ae)) h⟩
 | _, _, .agg jb, F, cs, S, h => by
   rw [aC] at h
   obtain ⟨hY, hZ, ai, aj, aP, bb⟩ := bl.n0 jb h
   exact ⟨hY, hZ, ai, aj, aP, fun bV bD => by rw [aC]; exact bb bV bD⟩
 | _, _, .a8 al, F, cs, S, h => by
   rw [aC] at h
   obtain ⟨b, cur, ty, fr, a1, b8, cu, fB, eP, gr, dG, jZ⟩ := h
   obtain ⟨hY, hZ, ai, aj, aP, bb⟩ := aC.n0 al gr
   refine ⟨hY, fun c => c = b ∨ hZ c, fun c ay => dG c (ai c ay), ?_, ?_, fun bV bD => ?_⟩
   ·rintro c (rfl | ay)
    ·exact cu
    ·exact dG c (aj c ay)
   ·rintro c (rfl | ay) bF
    ·exact jZ (ai _ bF)
    ·exact aP c ay bF
   ·rw [aC]
    exact ⟨b, cur, ty, fr, hZ, b8, .inl rfl, fB, eP, bb bV bD, fun c ay => .inr ay, fun ay => jZ (aj _ ay)⟩
 | .aw sz ds, .aw _ es, .aw jb, F, cs, S, h => by
   rw [aC] at h
   have hl := jb.len
   rcases h with ⟨ai, aj⟩ | ⟨b, cap, cur, ty, fr, a1, b8, cu, fB, eP, gr, dG, jZ, eD, lC, qh, HV⟩
   ·refine ⟨fun _ => False, S, fun _ h => h.elim, fun _ h => h, fun _ _ h => h, fun bV _ => ?_⟩
    rw [aC]
    subst ai
    exact .inl ⟨List.length_eq_zero_iff.1 (by simpa using hl), aj⟩
   ·obtain ⟨hY, hZ, ai, aj, aP, bb⟩ := bl.n0 jb lC
    refine ⟨hY, fun c => c = b ∨ hZ c, fun c ay => qh c (ai c ay), ?_, ?_, fun bV bD => ?_⟩
    ·rintro c (rfl | ay)
     ·exact cu
     ·exact qh c (aj c ay)
    ·rintro c (rfl | ay) bF
     ·exact HV (ai _ bF)
     ·exact aP c ay bF
    ·rw [aC]
     refine .inr ⟨b, cap, cur, ty, fr, hZ, by rw [hl]; exact b8, .inl rfl, fB, eP, by rw [hl]; exact gr, dG, jZ, jb.all eD, by rw [hl]; exact bb bV bD, fun c ay => .inr ay, fun ay => HV (aj _ ay)⟩
 | _, _, .tuple jb, F, cs, S, h => by
   rw [aC] at h
   obtain ⟨hY, hZ, ai, aj, aP, bb⟩ := bl.n0 jb h
   exact ⟨hY, hZ, ai, aj, aP, fun bV bD => by rw [aC]; exact bb bV bD⟩
 | _, _, .ref al, F, cs, S, h => by
   rw [aC] at h
   obtain ⟨b, o, eK, ai, aj, aP, bb⟩ := h
   obtain ⟨hY, hZ, b8, cu, fB, eP⟩ := aC.n0 al bb
   refine ⟨fun _ => False, S, fun _ h => h.elim, fun _ h => h, fun _ _ h => h, fun bV bD => ?_⟩
   rw [aC]
   exact ⟨b, o, eK, ai, bD _ (.inl aj), aP, aC.mono (fun _ h => h) _ _ _ _ (fun b ae => cu b ae) (eP bV fun b ae => bD b (ae.imp id fun h => (b8 b h).elim))⟩
 | _, _, .trans al he, F, cs, S, h => by
   obtain ⟨hY, hZ, ai, aj, aP, bb⟩ := aC.n0 al h
   obtain ⟨D1, zs, b8, cu, fB, eP⟩ := aC.n0 he (F := fun b => F b ∨ hY b) (bb _ fun _ h => h)
   refine ⟨fun b => hY b ∨ D1 b, zs, ?_, fun b ae => aj b (cu b ae), ?_, fun bV bD => eP bV fun b ae => ?_⟩
   ·rintro b (h | h)
    ·exact ai b h
    ·exact aj b (b8 b h)
   ·rintro b ae (h | h)
    ·exact aP b (cu b ae) h
    ·exact fB b ae h
   ·rcases ae with (ae | ae) | ae
    ·exact bD b (.inl ae)
    ·exact bD b (.inr (.inl ae))
    ·exact bD b (.inr (.inr ae))
theorem bl.n0 : ∀ {ds es : List I}, jE ds es → ∀ {F : Nat → Prop} {cs : List Value} {S : Nat → Prop}, bl w F ds cs S →
  ∃ hY hZ : Nat → Prop, (∀ b, hY b → S b) ∧ (∀ b, hZ b → S b) ∧ (∀ b, hZ b → ¬ hY b) ∧ ∀ bV, (∀ b, F b ∨ hY b → bV b) → bl w bV es cs hZ
 | _, _, .nil, F, cs, S, h => ⟨fun _ => False, fun _ => False, fun _ h => h.elim, fun _ h => h.elim, fun _ h => h.elim, fun bV bD => by rw [bl] at h ⊢; exact h⟩
 | _, _, .cons al jb, F, cs, S, h => by
   rw [bl] at h
   obtain ⟨cv, cE, ct, el, rfl, bG, cB, eC, fH, h9⟩ := h
   obtain ⟨P0, HW, ab, bj, dy, rp⟩ := aC.n0 al bG
   obtain ⟨D1, zs, j0, h_, l1, bk⟩ := bl.n0 jb cB
   refine ⟨fun b => P0 b ∨ D1 b, fun b => HW b ∨ zs b, ?_, ?_, ?_, fun bV bD => ?_⟩
   ·rintro b (h | h)
    ·exact eC b (ab b h)
    ·exact fH b (j0 b h)
   ·rintro b (h | h)
    ·exact eC b (bj b h)
    ·exact fH b (h_ b h)
   ·rintro b (h | h) (bB | bB)
    ·exact dy b h bB
    ·exact h9 b (bj b h) (j0 b bB)
    ·exact h9 b (ab b bB) (h_ b h)
    ·exact l1 b h bB
   ·rw [bl]
    refine ⟨cv, cE, HW, zs, rfl, rp bV (fun b ae => bD b (ae.imp id .inl)), bk bV (fun b ae => bD b (ae.imp id .inr)), fun b ae => .inl ae, fun b ae => .inr ae, fun b ai aj => h9 b (bj b ai) (h_ b aj)⟩
end
theorem fe.zt : ∀ {d e : I}, fe d e → (∀ vs, d ≠ .tuple vs) → ∀ vs, e ≠ .tuple vs
 | _, _, .refl _, h => h
 | _, _, .lG _, _ => fun _ h => by cases h
 | _, _, .tI, _ => fun _ h => by cases h
 | _, _, .any _, _ => fun _ h => by cases h
 | _, _, .share d _ _, h => fun vs he => by cases d <;> first | (cases he; done) | exact h _ rfl
 | _, _, .agg _, _ => fun _ h => by cases h
 | _, _, .a8 _, _ => fun _ h => by cases h
 | _, _, .aw _, _ => fun _ h => by cases h
 | _, _, .tuple _, h => fun _ _ => h _ rfl
 | _, _, .ref _, _ => fun _ h => by cases h
 | _, _, .trans h k, bd => fe.zt k (fe.zt h bd)
theorem fe.iv : ∀ {d e : I} {v : Value}, fe d e → (∀ vs, d ≠ .tuple vs) → dg.iv d v → dg.iv e v
 | _, _, _, .refl _, _, h => h
 | _, _, _, .lG _, _, h => h
 | _, _, _, .tI, _, h => h
 | _, _, _, .any _, _, h => h
 | _, _, _, .share d _ bd, _, h => by cases d <;> first | exact h | exact (bd _ rfl).elim
 | _, _, _, .agg _, _, h => h
 | _, _, _, .a8 _, _, h => h
 | _, _, _, .aw _, _, h => h
 | _, _, _, .tuple _, bd, _ => (bd _ rfl).elim
 | _, _, _, .ref _, _, h => h
 | _, _, _, .trans h k, bd, ah => fe.iv k (fe.zt h bd) (fe.iv h bd ah)
theorem jE.get : ∀ {ds es : List I}, jE ds es → ∀ (k : Nat) (e : I), es[k]? = some e → ∃ d, ds[k]? = some d ∧ fe d e
 | _, _, .nil, k, e, h => by simp at h
 | _, _, .cons al ah, 0, e, h => by simp at h; subst h; exact ⟨_, rfl, al⟩
 | _, _, .cons al ah, k + 1, e, h => jE.get ah k e (by simpa using h)
theorem fe.eL : ∀ {d e : I} {v : Value}, fe d e → dg.eL d v → dg.eL e v
 | _, _, _, .refl _, ah => ah
 | _, _, _, .lG _, ah => ah
 | _, _, _, .tI, ah => ah
 | _, _, _, .any _, ah => ah
 | _, _, _, .share _ _ l5, ah => DH l5 ah
 | _, _, _, .agg _, ah => ah
 | _, _, _, .a8 _, ah => ah
 | _, _, _, .aw _, ah => ah
 | _, _, _, .ref _, ah => ah
 | _, _, _, .tuple al, ah => by
   obtain ⟨arr, ai, aj, aP⟩ := ah
   refine ⟨arr, ai, aj.trans al.len.symm, fun k e x he aA => ?_⟩
   obtain ⟨d, aE, hw⟩ := al.get k e he
   obtain ⟨ab, bj, dy⟩ := aP k d x aE aA
   exact ⟨hw.iv bj ab, hw.zt bj, dy.trans hw.wd.symm⟩
 | _, _, _, .trans h k, ah => fe.eL k (fe.eL h ah)
theorem fe.tree : ∀ {d e : I}, fe d e → d.tree = true → e.tree = true
 | _, _, .refl _, al => al
 | _, _, .lG _, _ => rfl
 | _, _, .tI, _ => rfl
 | _, _, .any _, _ => rfl
 | _, _, .share d _ _, al => by cases d <;> first | exact al | rfl
 | _, _, .agg _, _ => rfl
 | _, _, .a8 _, _ => rfl
 | _, _, .aw _, _ => rfl
 | _, _, .tuple _, _ => rfl
 | _, _, .ref _, _ => rfl
 | _, _, .trans h k, al => fe.tree k (fe.tree h al)
mutual
def I.rL : I → List Nat
 | .h x q => if q.isEmpty then [] else [x]
 | .ax x _ => [x]
 | .ae x _ => [x]
 | .fn _ cap => I.wm cap
 | _ => []
def I.wm : List I → List Nat
 | [] => []
 | d :: ds => d.rL ++ I.wm ds
end
def wo (s az : au) (x : Nat) (D : List Nat) : Prop := az x = s x ∨ az x = .hole ∨ ((s x).own = true ∧ (az x).own = true ∧ x ∉ D)
theorem wo.less {s az : au} {x : Nat} {D E : List Nat} (h : wo s az x D) (P1 : ∀ u ∈ E, u ∈ D) : wo s az x E := by
 rcases h with h | h | ⟨ai, aj, aP⟩
 ·exact .inl h
 ·exact .inr (.inl h)
 ·exact .inr (.inr ⟨ai, aj, fun aA => aP (P1 x aA)⟩)
theorem aV.fc {bV : Nat → Prop} (bD : ∀ b, F b → bV b) : ∀ n, (∀ (d : I) (v : Value) (ew : Nat → Prop), SizeOf.sizeOf d ≤ n → (∀ x ∈ d.ah, wo s az x d.rL) → aV w F s aF d v ew → aV w bV az aF d v ew) ∧
  (∀ (ds : List I) (vs : List Value), SizeOf.sizeOf ds ≤ n → (∀ x ∈ I.d_ ds, wo s az x (I.wm ds)) → eX w F s aF ds vs → eX w bV az aF ds vs) := by
 intro n
 induction n with
 | zero =>
   refine ⟨fun d v ew ca => ?_, fun ds vs ca => ?_⟩
   ·cases d <;> simp at ca <;> omega
   ·cases ds <;> simp at ca <;> omega
 | succ n ih =>
   refine ⟨fun d v ew ca aE h => ?_, fun ds vs ca aE h => ?_⟩
   ·cases d with
    | hole => rw [aV]; trivial
    | h x q =>
      rw [aV] at h ⊢
      intro e fm ax
      rcases aE x (by simp [I.ah]) with he | he | ⟨wq, HX, tJ⟩
      ·rw [he] at fm ⊢; exact h e fm ax
      ·rw [he] at fm
       cases q with
       | nil => simp only [I.sub, Option.some.injEq] at fm; subst fm; simp [I.plain] at ax
       | cons k q => simp [I.sub] at fm
      ·cases q with
       | nil =>
         simp only [I.sub, Option.some.injEq] at fm
         subst fm
         obtain ⟨c0, J, gL, hr, h6⟩ := h (s x) (by simp only [I.sub]) (pE wq).1
         simp only [dq, Option.some.injEq, Prod.mk.injEq, true_and] at gL
         exact ⟨cV (aF x), none, by simp only [dq], by rw [hr, ← gL.1], ((pE HX).2.2.2.2.2 _).2 (((pE wq).2.2.2.2.2 _).1 h6)⟩
       | cons k q => exact (tJ (by simp [I.rL])).elim
    | ax x q =>
      rw [aV] at h ⊢
      intro e fm ay
      rcases aE x (by simp [I.ah]) with he | he | ⟨_, _, tJ⟩
      ·rw [he] at fm ay ⊢; exact h e fm ay
      ·rw [he] at ay
       cases q <;> simp [I.fI] at ay
      ·exact (tJ (by simp [I.rL])).elim
    | ae x k =>
      rw [aV] at h ⊢
      intro ax
      rcases aE x (by simp [I.ah]) with he | he | ⟨_, _, tJ⟩
      rotate_left 2
      ·exact (tJ (by simp [I.rL])).elim
      ·rw [he] at ax
       obtain ⟨b, cur, e, fr, ai, aj, aP, bb⟩ := h ax
       exact ⟨b, cur, e, fr, ai, bD b aj, aP, bb⟩
      ·rw [he] at ax; simp [I.plain] at ax
    | fn f cap =>
      rw [aV] at h ⊢
      obtain ⟨arr, rfl, ay⟩ := h
      exact ⟨arr, rfl, ih.2 _ _ (by simp at ca; omega) (by simpa [I.ah, I.rL] using aE) ay⟩
    | _ =>
      have bB := (aV.da rfl).1 h
      exact (aV.da rfl).2 ⟨bB.1, aC.mono bD _ _ _ _ (fun _ h => h) bB.2⟩
   ·cases ds with
    | nil => rw [eX] at h ⊢; exact h
    | cons d ds =>
      rw [eX] at h ⊢
      obtain ⟨v, kf, rfl, ai, aj⟩ := h
      simp at ca
      simp only [I.d_, List.mem_append] at aE
      exact ⟨v, kf, rfl, ih.1 _ _ _ (by omega) (fun x aA => (aE x (.inl aA)).less fun u hu => by simp [I.wm, hu]) ai, ih.2 _ _ (by omega) (fun x aA => (aE x (.inr aA)).less fun u hu => by simp [I.wm, hu]) aj⟩
def rM (s : au) (l : List (Nat × I)) : Prop :=
 ∀ p ∈ l, p.2 = s p.1 ∨ ((s p.1).tree = true ∧ fe (s p.1) p.2 ∧ ∀ cA ∈ l, p.1 ∉ cA.2.ah ∨ ((s p.1).own = true ∧ p.2.own = true ∧ p.1 ∉ cA.2.rL))
theorem HY : ∀ (l : List (Nat × I)) (t : Nat), aa l t = .hole ∨ ∃ p ∈ l, p.1 = t ∧ aa l t = p.2 := by
 intro l
 induction l with
 | nil => intro t; exact .inl rfl
 | cons p l ih =>
   intro t
   obtain ⟨u, d⟩ := p
   simp only [aa]
   split
   ·rename_i e; exact .inr ⟨(u, d), by simp, e.symm, rfl⟩
   ·rcases ih t with h | ⟨p, ax, h⟩
    ·exact .inl h
    ·exact .inr ⟨p, by simp [ax], h⟩
theorem bT.HZ (h : bT w0 F0 X F S s aF w) {l : List (Nat × I)} (hw : rM s l) : ∃ bV a1, bT w0 F0 X bV a1 (aa l) aF w := by
 have each : ∀ t, ∃ hY hZ : Nat → Prop, (∀ b, hY b → S t b) ∧ (∀ b, hZ b → S t b) ∧ (∀ b, hZ b → ¬ hY b) ∧ ∀ bV, (∀ b, F b ∨ hY b → bV b) → aV w bV (aa l) aF (aa l t) (aF t) hZ := by
  intro t
  rcases HY l t with e | ⟨p, ax, rfl, e⟩
  ·exact ⟨fun _ => False, fun _ => False, fun _ h => h.elim, fun _ h => h.elim, fun _ h => h.elim, fun bV _ => by rw [e, aV]; trivial⟩
  ·rw [e]
   rcases hw p ax with aE | ⟨bh, lW, _⟩
   ·refine ⟨fun _ => False, S p.1, fun _ h => h.elim, fun _ h => h, fun _ _ h => h, fun bV bD => ?_⟩
    rw [aE]
    refine (aV.fc (fun b ae => bD b (.inl ae)) (SizeOf.sizeOf (s p.1))).1 _ _ _ (Nat.le_refl _) ?_ (h.en p.1)
    intro x aA
    rcases HY l x with gG | ⟨cA, eQ, rfl, gG⟩
    ·exact .inr (.inl gG)
    ·rcases hw cA eQ with kB | ⟨_, _, m1⟩
     ·exact .inl (gG.trans kB)
     ·rcases m1 p ax with m1 | ⟨mF, kF, nU⟩
      ·exact (m1 (by rw [aE]; exact aA)).elim
      ·exact .inr (.inr ⟨mF, by rw [gG]; exact kF, by rw [aE] at nU; exact nU⟩)
   ·obtain ⟨bc, bG⟩ := (aV.da bh).1 (h.en p.1)
    obtain ⟨hY, hZ, b8, cu, fB, eP⟩ := aC.n0 lW bG
    exact ⟨hY, hZ, b8, cu, fB, fun bV bD => (aV.da (lW.tree bh)).2 ⟨lW.eL bc, eP bV bD⟩⟩
 have cv := fun t => (each t).choose_spec
 let hY := fun t => (each t).choose
 have cE := fun t => (cv t).choose_spec
 let hZ := fun t => (cv t).choose
 have iP : ∀ t b, hY t b → S t b := fun t => (cE t).1
 have bn : ∀ t b, hZ t b → S t b := fun t => (cE t).2.1
 have dX : ∀ t b, hZ t b → ¬ hY t b := fun t => (cE t).2.2.1
 have b9 := fun t => (cE t).2.2.2
 refine ⟨fun b => F b ∨ ∃ t, hY t b, hZ, fun b ae => .inl (h.hP b ae), ?_, ?_, fun t b ae => h.fz t b (bn t b ae), ?_, fun t u b eb ae hu => h.gm t u b eb (bn t b ae) (bn u b hu), fun t b ae => h.ew t b (bn t b ae), ?_, h.old, h.size, h.os, h.tape, h.output⟩
 ·rintro b (ae | ⟨t, ae⟩)
  ·exact h.h7 b ae
  ·exact .inr (h.ew t b (iP t b ae))
 ·rintro b (ae | ⟨t, ae⟩)
  ·exact h.gB b ae
  ·exact h.fz t b (iP t b ae)
 ·rintro t b ae (bF | ⟨u, hu⟩)
  ·exact h.gH t b (bn t b ae) bF
  ·by_cases e : t = u
   ·subst e; exact dX t b ae hu
   ·exact h.gm t u b e (bn t b ae) (iP u b hu)
 ·intro t
  exact b9 t _ (fun b ae => ae.imp id fun h => ⟨t, h⟩)
end
inductive R where
 | skip
 | U (ros : List cI) (fc : Option (List Nat))
 | g8 (ros : List cI) (nZ : List (List Nat)) (fc : Option (List Nat))
 | seq (a b : R)
 | cond (c : aG) (a b : R)
 | block (id : Nat) (b : R)
 | loop (b : R)
 | exit (id : Nat)
 | ret
 | iQ (T : (Exit → au → Prop) → au → Prop) (b : R)
def bw (n : Fr) : Code → Option R
 | .skip => some .skip
 | .region _ ops false => (oX n ops ops.toList).map fun r => .U r none
 | .region _ ops true => if wj (nj ops) = true then (oX n ops ops.toList).map fun r => .g8 r (nj ops) none else none
 | .seq a b => match bw n a, bw n b with
   | some a, some b => some (.seq a b)
   | _, _ => none
 | .cond c a b => match dW c, bw n a, bw n b with
   | some c, some a, some b => some (.cond c a b)
   | _, _, _ => none
 | .block id b => (bw n b).map (.block id)
 | .loop b => (bw n b).map .loop
 | .exit id => some (.exit id)
 | .ret => some .ret
 | _ => none
def R.ki : R → R
 | .U ros _ => .U ros none
 | .g8 ros g9 _ => .g8 ros g9 none
 | .seq a b => .seq a.ki b.ki
 | .cond c a b => .cond c a.ki b.ki
 | .block id b => .block id b.ki
 | .loop b => .loop b.ki
 | .iQ T b => .iQ T b.ki
 | c => c
def R.strip : R → R
 | .U ros _ => .U (ros.map cI.un) none
 | .g8 ros g9 _ => .g8 (ros.map cI.un) g9 none
 | .seq a b => .seq a.strip b.strip
 | .cond c a b => .cond c a.strip b.strip
 | .block id b => .block id b.strip
 | .loop b => .loop b.strip
 | .iQ _ b => b.strip
 | c => c
theorem R.D2 : ∀ c : R, c.ki.strip = c.strip := by
 intro c
 induction c with
 | seq a b jF jG => simp only [R.ki, R.strip, jF, jG]
 | cond c a b jF jG => simp only [R.ki, R.strip, jF, jG]
 | block id b ih => simp only [R.ki, R.strip, ih]
 | loop b ih => simp only [R.ki, R.strip, ih]
 | iQ T b ih => simp only [R.ki, R.strip, ih]
 | _ => rfl
def R.bare (H : ((Exit → au → Prop) → au → Prop) → R → Prop) : R → Prop
 | .U _ k => k = none
 | .g8 _ _ k => k = none
 | .seq a b => a.bare H ∧ b.bare H
 | .cond _ a b => a.bare H ∧ b.bare H
 | .block _ b => b.bare H
 | .loop b => b.bare H
 | .iQ T b => H T b
 | _ => True
def R.l8 (H : ((Exit → au → Prop) → au → Prop) → R → Prop) : R → Prop
 | .seq a b => a.l8 H ∧ b.l8 H
 | .cond _ a b => a.l8 H ∧ b.l8 H
 | .block _ b => b.l8 H
 | .loop b => b.l8 H
 | .iQ T b => H T b.ki
 | _ => True
theorem R.zu {H : ((Exit → au → Prop) → au → Prop) → R → Prop} : ∀ c : R, c.l8 H → c.ki.bare H := by
 intro c
 induction c with
 | seq a b jF jG => intro h; exact ⟨jF h.1, jG h.2⟩
 | cond c a b jF jG => intro h; exact ⟨jF h.1, jG h.2⟩
 | block id b ih => intro h; exact ih h
 | loop b ih => intro h; exact ih h
 | U => intro _; rfl
 | g8 => intro _; rfl
 | iQ T b _ => intro h; exact h
 | _ => intro _; trivial
def R.plain : R → Bool
 | .seq a b => a.plain && b.plain
 | .cond _ a b => a.plain && b.plain
 | .block _ b => b.plain
 | .loop b => b.plain
 | .iQ _ _ => false
 | _ => true
theorem R.H0 {H : ((Exit → au → Prop) → au → Prop) → R → Prop} : ∀ c : R, c.plain = true → c.l8 H := by
 intro c
 induction c with
 | seq a b jF jG => intro h; simp only [R.plain, Bool.and_eq_true] at h; exact ⟨jF h.1, jG h.2⟩
 | cond c a b jF jG => intro h; simp only [R.plain, Bool.and_eq_true] at h; exact ⟨jF h.1, jG h.2⟩
 | block id b ih => intro h; exact ih h
 | loop b ih => intro h; exact ih h
 | iQ T b _ => intro h; cases h
 | _ => intro _; trivial
def andThen (K : au → Prop) (Q : Exit → au → Prop) : Exit → au → Prop
 | .normal, s => K s
 | e, s => Q e s
def tK (id : Nat) (Q : Exit → au → Prop) : Exit → au → Prop
 | .exit i, s => if i = id then Q .normal s else Q (.exit i) s
 | e, s => Q e s
def eA (K : au → Prop) (s : au) : Prop := K s ∨ ∃ l, rM s l ∧ K (aa l)
def wt : Option (List Nat) → (au → Prop) → au → Prop
 | none, K, s => eA K s
 | some k, K, s => K (aa (k.map fun t => (t, s t)))
def dj (C : cn) : R → (Exit → au → Prop) → au → Prop
 | .skip, Q, s => Q .normal s
 | .U ros fc, Q, s => k2 C s ros (wt fc (Q .normal))
 | .g8 ros nZ fc, Q, s => ∀ l, DY nZ l → jC C ros s l (wt fc (Q .normal))
 | .seq a b, Q, s => dj C a (andThen (eA (dj C b Q)) Q) s
 | .cond c a b, Q, s => match aR s c with
   | .bool fU => if fU = true then dj C a Q s else dj C b Q s
   | .fi => dj C a Q s ∧ dj C b Q s
   | _ => False
 | .block id b, Q, s => dj C b (tK id Q) s
 | .loop b, Q, s => eA (fun s => ∀ Z : au → Prop, (∀ az, dj C b (andThen (eA Z) Q) az → Z az) → Z s) s
 | .exit id, Q, s => Q (.exit id) s
 | .ret, Q, s => Q .ret s
 | .iQ T _, Q, s => ∀ gE : Exit → au → Prop, (∀ e s, Q e s → gE e s) → T gE s
section
variable {C : cn}
theorem D3 {s : au} {o : cI} {K dt : au → Prop} (h : lj C s o K) (aE : ∀ s, K s → dt s) : lj C s o dt := by
 unfold lj at h ⊢
 split
 ·rename_i b6; rw [b6] at h; exact zn h fun av s1 => aE _
 ·rename_i t b b6
  rw [b6] at h
  simp only at h
  split
  ·rename_i fU ah
   rw [ah] at h
   simp only at h
   split
   ·rename_i ae; rw [if_pos ae] at h; exact zn h fun av s1 => aE _
   ·rename_i ae; rw [if_neg ae] at h; exact aE _ h
  ·rename_i ah; rw [ah] at h; exact aE _ h
  ·rename_i ai aj
   split at h
   ·exact ai _ (by assumption)
   ·exact aj (by assumption)
   ·exact h
theorem H2 {K dt : au → Prop} (aE : ∀ s, K s → dt s) : ∀ {ros : List cI} {s : au}, k2 C s ros K → k2 C s ros dt := by
 intro ros
 induction ros with
 | nil => intro s h; exact aE s h
 | cons o ros ih => intro s h; exact D3 h fun s h => ih h
theorem H3 {ros : List cI} {K dt : au → Prop} (aE : ∀ s, K s → dt s) : ∀ {l : List Nat} {s : au}, jC C ros s l K → jC C ros s l dt := by
 intro l
 induction l with
 | nil => intro s h; exact aE s h
 | cons i l ih =>
   intro s h
   simp only [jC] at h ⊢
   split
   ·rename_i cm; rw [cm] at h; exact ih h
   ·rename_i o cm; rw [cm] at h; exact D3 h fun s h => ih h
theorem tL {K dt : au → Prop} (aE : ∀ s, K s → dt s) (s : au) (h : eA K s) : eA dt s :=
 h.imp (aE s) fun ⟨l, ai, aj⟩ => ⟨l, ai, aE _ aj⟩
theorem H4 {fc : Option (List Nat)} {K dt : au → Prop} (aE : ∀ s, K s → dt s) (s : au) (h : wt fc K s) : wt fc dt s := by
 cases fc with
 | none => exact tL aE s h
 | some k => exact aE _ h
theorem H5 {fc : Option (List Nat)} {K : au → Prop} {s : au} (h : wt fc K s) : eA K s := by
 cases fc with
 | none => exact h
 | some k =>
   refine .inr ⟨_, ?_, h⟩
   intro p ax
   obtain ⟨t, _, rfl⟩ := List.mem_map.1 ax
   exact .inl rfl
theorem D4 {K dt : au → Prop} {Q gE : Exit → au → Prop} (aE : ∀ s, K s → dt s) (dc : ∀ e s, Q e s → gE e s) : ∀ e s, andThen K Q e s → andThen dt gE e s := by
 intro e s h
 cases e with
 | normal => exact aE s h
 | _ => exact dc _ s h
theorem D5 : ∀ (c : R) {Q gE : Exit → au → Prop} {s : au}, (∀ e s, Q e s → gE e s) → dj C c Q s → dj C c gE s := by
 intro c
 induction c with
 | skip => intro Q gE s dc h; exact dc _ _ h
 | U ros fc => intro Q gE s dc h; exact H2 (H4 (dc _)) h
 | g8 ros nZ fc => intro Q gE s dc h l hl; exact H3 (H4 (dc _)) (h l hl)
 | seq a b jF jG =>
   intro Q gE s dc h
   exact jF (D4 (fun s h => tL (fun _ h => jG dc h) s h) dc) h
 | cond c a b jF jG =>
   intro Q gE s dc h
   simp only [dj] at h ⊢
   split
   ·rename_i fU ae
    rw [ae] at h
    simp only at h
    split
    ·rename_i e; rw [if_pos e] at h; exact jF dc h
    ·rename_i e; rw [if_neg e] at h; exact jG dc h
   ·rename_i ae; rw [ae] at h; exact ⟨jF dc h.1, jG dc h.2⟩
   ·rename_i ai aj
    split at h
    ·exact ai _ (by assumption)
    ·exact aj (by assumption)
    ·exact h
 | block id b ih =>
   intro Q gE s dc h
   refine ih ?_ h
   intro e s h
   cases e with
   | exit i =>
     simp only [tK] at h ⊢
     split
     ·rename_i e; rw [if_pos e] at h; exact dc _ _ h
     ·rename_i e; rw [if_neg e] at h; exact dc _ _ h
   | _ => exact dc _ _ h
 | loop b ih =>
   intro Q gE s dc h
   refine tL (fun s h Z tM => ?_) s h
   exact h Z fun az fq => tM az (ih (D4 (fun _ h => h) dc) fq)
 | exit id => intro Q gE s dc h; exact dc _ _ h
 | ret => intro Q gE s dc h; exact dc _ _ h
 | iQ T b _ => intro Q gE s dc h eo aj; exact h eo fun e s he => aj e s (dc e s he)
theorem zv : ∀ (c : R) {Q : Exit → au → Prop} {s : au}, dj C c Q s → dj C c.ki Q s := by
 intro c
 induction c with
 | U ros fc => intro Q s h; exact H2 (fun s h => H5 h) h
 | g8 ros g9 fc => intro Q s h l hl; exact H3 (fun s h => H5 h) (h l hl)
 | seq a b jF jG => intro Q s h; exact jF (D5 a (D4 (fun s h => tL (fun _ h => jG h) s h) (fun _ _ h => h)) h)
 | cond c a b jF jG =>
   intro Q s h
   simp only [R.ki, dj] at h ⊢
   split
   ·rename_i fU ae
    rw [ae] at h
    simp only at h
    split
    ·rename_i e; rw [if_pos e] at h; exact jF h
    ·rename_i e; rw [if_neg e] at h; exact jG h
   ·rename_i ae; rw [ae] at h; exact ⟨jF h.1, jG h.2⟩
   ·rename_i ai aj
    split at h
    ·exact ai _ (by assumption)
    ·exact aj (by assumption)
    ·exact h
 | block id b ih => intro Q s h; exact ih h
 | loop b ih =>
   intro Q s h
   refine tL (fun s h Z tM => ?_) s h
   exact h Z fun az fq => tM az (ih fq)
 | iQ T b _ => intro Q s h; exact h
 | _ => intro Q s h; exact h
variable {w0 w : World} {F0 X : Nat → Prop} {n : Fr} {ρ : Nat → Value} {s : au} {a : Act}
def rN (w0 : World) (F0 X : Nat → Prop) (n : Fr) (ρ : Nat → Value) (Q : Exit → au → Prop) : Exit → Act → World → Prop := fun e a w => ∃ s, Q e s ∧ Rel w0 F0 X n ρ s a w
theorem Rel.eA {K : au → Prop} {s : au} {a : Act} {w : World} (a7 : Rel w0 F0 X n ρ s a w) (h : eA K s) : ∃ az, K az ∧ Rel w0 F0 X n ρ az a w := by
 rcases h with h | ⟨l, ai, aj⟩
 ·exact ⟨s, h, a7⟩
 ·obtain ⟨bc, bG, cB, F, S, eC⟩ := a7
  obtain ⟨bV, a1, fH⟩ := eC.HZ ai
  exact ⟨aa l, aj, bc, bG, cB, bV, a1, fH⟩
theorem R.P2 {c : R} (h : c.strip = .skip) : c = .skip ∨ ∃ T b, c = .iQ T b := by cases c <;> first | exact .inl rfl | exact .inr ⟨_, _, rfl⟩ | cases h
theorem R.P3 {c : R} (h : c.strip = .ret) : c = .ret ∨ ∃ T b, c = .iQ T b := by cases c <;> first | exact .inl rfl | exact .inr ⟨_, _, rfl⟩ | cases h
theorem R.P4 {c : R} {i : Nat} (h : c.strip = .exit i) : c = .exit i ∨ ∃ T b, c = .iQ T b := by cases c <;> first | exact .inl h | exact .inr ⟨_, _, rfl⟩ | cases h
theorem R.P5 {c : R} {r : List cI} {k : Option (List Nat)} (h : c.strip = .U r k) : (∃ ros dd, c = .U ros dd ∧ ros.map cI.un = r) ∨ ∃ T b, c = .iQ T b := by
 cases c <;> first | (cases h; exact .inl ⟨_, _, rfl, rfl⟩) | exact .inr ⟨_, _, rfl⟩ | cases h
theorem R.P6 {c : R} {r : List cI} {g9 : List (List Nat)} {k : Option (List Nat)} (h : c.strip = .g8 r g9 k) : (∃ ros H6 dd, c = .g8 ros H6 dd ∧ ros.map cI.un = r ∧ H6 = g9) ∨ ∃ T b, c = .iQ T b := by
 cases c <;> first | (cases h; exact .inl ⟨_, _, _, rfl, rfl, rfl⟩) | exact .inr ⟨_, _, rfl⟩ | cases h
theorem R.P7 {c x y : R} (h : c.strip = .seq x y) : (∃ a b, c = .seq a b ∧ a.strip = x ∧ b.strip = y) ∨ ∃ T b, c = .iQ T b := by
 cases c <;> first | (cases h; exact .inl ⟨_, _, rfl, rfl, rfl⟩) | exact .inr ⟨_, _, rfl⟩ | cases h
theorem R.P8 {c x y : R} {o : aG} (h : c.strip = .cond o x y) : (∃ mE a b, c = .cond mE a b ∧ mE = o ∧ a.strip = x ∧ b.strip = y) ∨ ∃ T b, c = .iQ T b := by
 cases c <;> first | (cases h; exact .inl ⟨_, _, _, rfl, rfl, rfl, rfl⟩) | exact .inr ⟨_, _, rfl⟩ | cases h
theorem R.P9 {c x : R} {i : Nat} (h : c.strip = .block i x) : (∃ a, c = .block i a ∧ a.strip = x) ∨ ∃ T b, c = .iQ T b := by
 cases c <;> first | (cases h; exact .inl ⟨_, rfl, rfl⟩) | exact .inr ⟨_, _, rfl⟩ | cases h
theorem R.P_ {c x : R} (h : c.strip = .loop x) : (∃ a, c = .loop a ∧ a.strip = x) ∨ ∃ T b, c = .iQ T b := by
 cases c <;> first | (cases h; exact .inl ⟨_, rfl, rfl⟩) | exact .inr ⟨_, _, rfl⟩ | cases h
theorem D6 (bA : C.fo) {H : ((Exit → au → Prop) → au → Prop) → R → Prop}
  (mH : ∀ (c : Code) (T : (Exit → au → Prop) → au → Prop) (b : R) (Q : Exit → au → Prop) (s : au) (a : Act) (w : World), H T b → bw n c = some b.strip → T Q s → Rel w0 F0 X n ρ s a w → c.wp C.P (rN w0 F0 X n ρ Q) a w) :
  ∀ (c : Code) {dE : R} {Q : Exit → au → Prop} {s : au} {a : Act} {w : World}, bw n c = some dE.strip → dE.bare H → dj C dE Q s → Rel w0 F0 X n ρ s a w → c.wp C.P (rN w0 F0 X n ρ Q) a w := by
 intro c
 induction c with
 | skip =>
   intro dE Q s a w ah hQ h a7
   have kG := ah
   simp only [bw, Option.some.injEq] at ah
   rcases R.P2 ah.symm with rfl | ⟨T, b, rfl⟩
   ·exact wp_skip ⟨s, h, a7⟩
   ·exact mH _ T b Q s a w hQ (by simpa only [R.strip] using kG) (h Q fun _ _ h => h) a7
 | region id ops draw =>
   intro dE Q s a w ah hQ h a7
   have kG := ah
   cases draw with
   | false =>
     simp only [bw, Option.map_eq_some_iff] at ah
     obtain ⟨Qa, wu, ah⟩ := ah
     rcases R.P5 ah.symm with ⟨ros, k, rfl, rfl⟩ | ⟨T, b, rfl⟩
     rotate_left
     ·exact mH _ T b Q s a w hQ (by simpa only [R.strip] using kG) (h Q fun _ _ h => h) a7
     cases hQ
     exact PQ bA wu (fun az cS aS aE fa => fa.eA aE) h a7
   | true =>
     simp only [bw] at ah
     split at ah
     ·rename_i ae
      simp only [Option.map_eq_some_iff] at ah
      obtain ⟨Qa, wu, ah⟩ := ah
      rcases R.P6 ah.symm with ⟨ros, g9, k, rfl, rfl, rfl⟩ | ⟨T, b, rfl⟩
      rotate_left
      ·exact mH _ T b Q s a w hQ (by simpa only [R.strip] using kG) (h Q fun _ _ h => h) a7
      cases hQ
      refine wp_region_draw fun t => ?_
      rw [show Region.schedule (C.P.follows .mixedOrders) ops t = Region.linearise .any ops t by simp [Region.schedule, bA.mixed]]
      exact HP bA wu (fun az cS aS aE fa => fa.eA aE) _ s a _ (h _ (PY ae t)) (a7.drawn _)
     ·cases ah
 | seq x y Qb zw =>
   intro dE Q s a w ah hQ h a7
   have kG := ah
   simp only [bw] at ah
   split at ah
   ·rename_i tB H7 aA bL
    simp only [Option.some.injEq] at ah
    rcases R.P7 ah.symm with ⟨cz, jS, rfl, rfl, rfl⟩ | ⟨T, b, rfl⟩
    rotate_left
    ·exact mH _ T b Q s a w hQ (by simpa only [R.strip] using kG) (h Q fun _ _ h => h) a7
    refine wp_seq (wp_mono (Qb aA hQ.1 h a7) ?_)
    rintro e cS aS ⟨az, bB, fa⟩
    cases e with
    | normal =>
      obtain ⟨az, bB, fa⟩ := fa.eA bB
      exact zw bL hQ.2 bB fa
    | _ => exact ⟨az, bB, fa⟩
   ·cases ah
 | cond x y z zw H8 =>
   intro dE Q s a w ah hQ h a7
   have kG := ah
   simp only [bw] at ah
   split at ah
   ·rename_i tB H7 sz aA bL ca
    simp only [Option.some.injEq] at ah
    rcases R.P8 ah.symm with ⟨cz, jS, qf, rfl, rfl, rfl, rfl⟩ | ⟨T, b, rfl⟩
    rotate_left
    ·exact mH _ T b Q s a w hQ (by simpa only [R.strip] using kG) (h Q fun _ _ h => h) a7
    have fa := a7
    obtain ⟨al, e3, bF, F, S, nY⟩ := fa
    have a2 := (gn (a := a) nY (fun _ => rfl) aA).2
    simp only [dj] at h
    split at h
    ·rename_i fU ae
     rw [ae] at a2
     have := rm a2
     refine wp_cond this ?_
     split
     ·rename_i e; rw [if_pos e] at h; exact zw bL hQ.1 h a7
     ·rename_i e; rw [if_neg e] at h; exact H8 ca hQ.2 h a7
    ·rename_i ae
     rw [ae] at a2
     obtain ⟨fU, lx⟩ := GP a2
     refine wp_cond lx ?_
     split
     ·exact zw bL hQ.1 h.1 a7
     ·exact H8 ca hQ.2 h.2 a7
    ·exact h.elim
   ·cases ah
 | block id b ih =>
   intro dE Q s a w ah hQ h a7
   have kG := ah
   simp only [bw, Option.map_eq_some_iff] at ah
   obtain ⟨vP, ae, ah⟩ := ah
   rcases R.P9 ah.symm with ⟨fU, rfl, rfl⟩ | ⟨T, b, rfl⟩
   rotate_left
   ·exact mH _ T b Q s a w hQ (by simpa only [R.strip] using kG) (h Q fun _ _ h => h) a7
   refine wp_block (wp_mono (ih ae hQ h a7) ?_)
   rintro e cS aS ⟨az, bB, fa⟩
   cases e with
   | exit i =>
     simp only [tK] at bB
     simp only [Exit.inBlock]
     split
     ·rename_i e; rw [if_pos e] at bB; exact ⟨az, bB, fa⟩
     ·rename_i e; rw [if_neg e] at bB; exact ⟨az, bB, fa⟩
   | _ => exact ⟨az, bB, fa⟩
 | loop b ih =>
   intro dE Q s a w ah hQ h a7
   have kG := ah
   simp only [bw, Option.map_eq_some_iff] at ah
   obtain ⟨vP, ae, ah⟩ := ah
   rcases R.P_ ah.symm with ⟨fU, rfl, rfl⟩ | ⟨T, b, rfl⟩
   rotate_left
   ·exact mH _ T b Q s a w hQ (by simpa only [R.strip] using kG) (h Q fun _ _ h => h) a7
   obtain ⟨s, h, a7⟩ := a7.eA h
   have key := h (fun s => ∀ a w, Rel w0 F0 X n ρ s a w → ∀ (f : Frame) (k : List Item) (cs : List Frame), ∃ e cS aS, rN w0 F0 X n ρ Q e cS aS ∧ Arrives C.P (lone (f.at a (.code b :: .inLoop b :: k)) cs w) f k cs e cS aS) ?_
   ·intro f k cs
    obtain ⟨e, cS, aS, dc, qo⟩ := key a w a7 f k cs
    exact ⟨e, cS, aS, dc, .of_steps (.one step_loop) qo⟩
   ·intro az fq a w a7 f k cs
    obtain ⟨e, a₁, w₁, ⟨s1, dc, qp⟩, qo⟩ := ih ae hQ fq a7 f (.inLoop b :: k) cs
    cases e with
    | normal =>
      simp only [andThen] at dc
      obtain ⟨s1, dc, qp⟩ := qp.eA dc
      obtain ⟨e₂, a₂, w₂, hq₂, harr₂⟩ := dc a₁ w₁ qp f k cs
      exact ⟨e₂, a₂, w₂, hq₂, .of_steps (Steps.trans qo (.one step_inLoop)) harr₂⟩
    | exit id => exact ⟨_, a₁, w₁, ⟨s1, dc, qp⟩, .pass (x := .inLoop b) rfl (fun _ _ => .inl (by simp)) qo⟩
    | goto l => exact ⟨_, a₁, w₁, ⟨s1, dc, qp⟩, .pass (x := .inLoop b) rfl (fun _ _ => .inl (by simp)) qo⟩
    | ret => exact ⟨_, a₁, w₁, ⟨s1, dc, qp⟩, .pass (x := .inLoop b) rfl (fun _ _ => .inl (by simp)) qo⟩
    | panic auV => exact ⟨_, a₁, w₁, ⟨s1, dc, qp⟩, .pass (x := .inLoop b) rfl (fun _ _ => .inl (by simp)) qo⟩
    | outgrown => exact ⟨_, a₁, w₁, ⟨s1, dc, qp⟩, .pass (x := .inLoop b) rfl (fun _ _ => .inl (by simp)) qo⟩
 | exit id =>
   intro dE Q s a w ah hQ h a7
   have kG := ah
   simp only [bw, Option.some.injEq] at ah
   rcases R.P4 ah.symm with rfl | ⟨T, b, rfl⟩
   ·exact wp_exit ⟨s, h, a7⟩
   ·exact mH _ T b Q s a w hQ (by simpa only [R.strip] using kG) (h Q fun _ _ h => h) a7
 | ret =>
   intro dE Q s a w ah hQ h a7
   have kG := ah
   simp only [bw, Option.some.injEq] at ah
   rcases R.P3 ah.symm with rfl | ⟨T, b, rfl⟩
   ·exact wp_ret ⟨s, h, a7⟩
   ·exact mH _ T b Q s a w hQ (by simpa only [R.strip] using kG) (h Q fun _ _ h => h) a7
 | _ => intro dE Q s a w ah; simp [bw] at ah
theorem H9 (bA : C.fo) (c : Code) {dE : R} {Q : Exit → au → Prop} {s : au} {a : Act} {w : World} (ah : bw n c = some dE.strip) (ae : dE.bare (fun _ _ => False)) (h : dj C dE Q s) (a7 : Rel w0 F0 X n ρ s a w) : c.wp C.P (rN w0 F0 X n ρ Q) a w :=
 D6 bA (fun _ _ _ _ _ _ _ bF => bF.elim) c ah ae h a7
end
def jH : ResultVar → Nat
 | .tmp t => t
 | .cell a _ => a
def qq (C : cn) (s : au) : ResultVar → Option I
 | .tmp t => if (s t).tree = true then (match s t with | .tuple _ => none | d => some d) else none
 | .cell a T => match s a with
   | .a8 d => if fits C T d = true ∧ d.tree = true then some d else none
   | _ => none
def Ends (C : cn) (fx : List Nat) (gN : List ResultVar) (r : I) (outs : List I) (s : au) : Prop :=
 ∃ ds, gN.map (qq C s) = ds.map some ∧ r = (match ds with | [d] => d | ds => .tuple ds) ∧ (gN.map jH).Nodup ∧
   ∀ (i : Nat) (o : I), outs[i]? = some o → o = .hole ∨ (o = s i ∧ o.gD = true ∧ i ∈ fx ∧ i ∉ gN.map jH)
section
variable {C : cn} {w0 w : World} {F0 X F : Nat → Prop} {S : Nat → Nat → Prop} {s : au} {tmps : Array Value}
theorem H_ {d : I} {x : Value} (al : ∀ vs, d ≠ .tuple vs) (h : eL d x) : cV x = iu x ∧ iv d x := by
 have : iv d x := by cases d <;> first | exact h | exact (al _ rfl).elim
 refine ⟨?_, this⟩
 cases d <;> first
  | (obtain ⟨a, rfl⟩ := this; rfl)
  | (simp only [iv] at this
     rw [iK this]
     cases x <;> first | rfl | (simp [Value.gU] at this))
def wv (tmps : Array Value) : ResultVar → Sem Value
 | .tmp t => pure (tmps.getD t undef)
 | .cell a t => do loadVar t (← asAddr (tmps.getD a undef))
theorem Qc (bA : C.fo) (h : bT w0 F0 X F S s (fun t => tmps.getD t undef) w) {v : ResultVar} {d : I} (a2 : qq C s v = some d) :
  ∃ x, (wv tmps v).run C.P w = .ok x w ∧ d.tree = true ∧ (∀ vs, d ≠ .tuple vs) ∧ eL d x ∧ aC w F d (cV x) (S (jH v)) := by
 cases v with
 | tmp t =>
   simp only [qq] at a2
   split at a2
   ·rename_i bh
    have l5 : (∀ vs, s t ≠ .tuple vs) ∧ d = s t := by
     cases ah : s t <;> rw [ah] at a2 <;> simp only at a2 <;> first
      | (cases a2; done)
      | (simp only [Option.some.injEq] at a2; exact ⟨(fun _ h => by cases h), a2.symm⟩)
    obtain ⟨l5, rfl⟩ := l5
    obtain ⟨bc, bG⟩ := (aV.da bh).1 (h.en t)
    exact ⟨_, by simp [wv], bh, l5, bc, bG⟩
   ·cases a2
 | cell a T =>
   simp only [qq] at a2
   split at a2
   ·rename_i e ah
    split at a2
    ·rename_i Qd
     obtain ⟨jV, Qe⟩ := Qd
     simp only [Option.some.injEq] at a2; subst a2
     have i0 := h.en a
     rw [ah] at i0
     obtain ⟨bc, bG⟩ := (aV.da (d := .a8 e) rfl).1 i0
     rw [iK bc, aC] at bG
     obtain ⟨b, cur, ty, fr, a1, b8, cu, fB, eP, gr, dG, jZ⟩ := bG
     simp only [List.cons.injEq, and_true] at b8
     have jy : hN w b 0 cur.toList := by
      have := ti fB cur.size
      rwa [List.take_of_length_le (by simp)] at this
     obtain ⟨x, dV, eS, h8⟩ := yZ (C := C) bA jy gr jV
     refine ⟨x, ?_, Qe, ?_, h8, ?_⟩
     ·simp only [wv]
      rw [b8]
      simpa [asAddr] using dV
     ·intro vs gG; subst gG
      unfold fits at jV
      split at jV <;> simp_all
     ·rw [eS]; exact aC.mono (fun _ h => h) _ _ _ _ dG gr
    ·cases a2
   ·cases a2
theorem Qf (bA : C.fo) (h : bT w0 F0 X F S s (fun t => tmps.getD t undef) w) : ∀ (gN : List ResultVar) (ds : List I), gN.map (qq C s) = ds.map some → (gN.map jH).Nodup →
  ∃ xs, (gN.mapM (wv tmps)).run C.P w = .ok xs w ∧ xs.length = ds.length ∧ bl w F ds (xs.flatMap iu) (fun b => ∃ t ∈ gN.map jH, S t b) ∧
    ∀ (k : Nat) (d : I) (x : Value), ds[k]? = some d → xs[k]? = some x → eL d x ∧ (∀ vs, d ≠ .tuple vs) ∧ (iu x).length = d.wd ∧ cV x = iu x ∧ d.tree = true := by
 intro gN
 induction gN with
 | nil =>
   intro ds he _
   have : ds = [] := by simpa using he.symm
   subst this
   exact ⟨[], by simp, rfl, by simp only [List.flatMap_nil]; rw [bl], fun k d x al => by simp at al⟩
 | cons v gN ih =>
   intro ds he tN
   cases ds with
   | nil => simp at he
   | cons d ds =>
     simp only [List.map_cons, List.cons.injEq] at he
     simp only [List.map_cons, List.nodup_cons] at tN
     obtain ⟨x, dV, rt, eS, h8, jT⟩ := Qc bA h he.1
     obtain ⟨xs, iP, bn, dX, b9⟩ := ih ds he.2 tN.2
     obtain ⟨a4, a_⟩ := H_ eS h8
     refine ⟨x :: xs, by simp [List.mapM_cons, dV, iP], by simp [bn], ?_, ?_⟩
     ·simp only [List.flatMap_cons]
      rw [bl]
      rw [a4] at jT
      refine ⟨iu x, xs.flatMap iu, S (jH v), fun b => ∃ t ∈ gN.map jH, S t b, rfl, jT, dX, fun b ae => ⟨jH v, by simp, ae⟩, ?_, ?_⟩
      ·rintro b ⟨t, bh, ae⟩; exact ⟨t, by simp [bh], ae⟩
      ·rintro b ae ⟨t, bh, lx⟩
       have : t ≠ jH v := fun e => tN.1 (e ▸ bh)
       exact h.gm t (jH v) b this lx ae
     ·intro k bE cz al aA
      cases k with
      | zero =>
        simp at al aA; subst al aA
        refine ⟨h8, eS, ?_, a4, rt⟩
        rw [← a4]; exact aC.length _ _ _ jT
      | succ k => exact b9 k bE cz (by simpa using al) (by simpa using aA)
theorem D7 (bA : C.fo) {f : FuncId} {fn : Func} {c : Code} {fx : List Nat} {as outs : List I} {r : I} (bF : C.P.funcs[f]? = some fn) (ae : fn.body = some c)
  (k3 : (fn.name == "runtime.NumGoroutine") = false) (bd : as.length ≤ fn.ntmps)
  {w : World} {F X : Nat → Prop} {S : Nat → Nat → Prop} {vs : List Value} (hl : vs.length = as.length) (a7 : bT w F X F S (gf as) (hL vs) w)
  (Qg : ∀ a, Rel w F X ⟨fn.ntmps, fx⟩ (hL vs) (gf as) a w → (∀ t, a.tmps.getD t undef = hL vs t) → c.wp C.P (rN w F X ⟨fn.ntmps, fx⟩ (hL vs) (fun e s => (e = .normal ∨ e = .ret) ∧ eA (Ends C fx fn.results.toList r outs) s)) a w) :
  nf C.P f vs.toArray w fun v aS => ∃ bV a1, bT w F X bV a1 (gf (r :: outs)) (hL (v :: vs)) aS := by
 have l4 : (vs.toArray ++ Array.replicate (fn.ntmps - vs.toArray.size) undef).size = fn.ntmps := by simp; omega
 have eT : (fun t => (vs.toArray ++ Array.replicate (fn.ntmps - vs.toArray.size) undef).getD t undef) = hL vs := by
  funext t
  simp only [hL, Array.getD_eq_getD_getElem?, List.getD_eq_getElem?_getD]
  by_cases bh : t < vs.length
  ·rw [Array.getElem?_append_left (by simpa using bh)]; simp
  ·rw [Array.getElem?_append_right (by simpa using bh)]
   rw [List.getElem?_eq_none (by omega)]
   simp only [Array.getElem?_replicate]
   split <;> rfl
 have nY : Rel w F X ⟨fn.ntmps, fx⟩ (hL vs) (gf as) { tmps := vs.toArray ++ Array.replicate (fn.ntmps - vs.toArray.size) undef, defers := [] } w :=
  ⟨rfl, l4, fun i _ => congrFun eT i, F, S, by rw [eT]; exact a7⟩
 have D8 : fn.name ≠ "runtime.NumGoroutine" := by simpa using k3
 refine .inl ⟨by simp [callFunc, bF, D8, ae], calls_of_wp bF ae (wp_mono (Qg _ nY (congrFun eT)) ?_)⟩
 rintro e cS aS ⟨az, ⟨he, Qh⟩, Qi⟩
 obtain ⟨az, ⟨ds, jb, Ia, tN, vD⟩, al, e3, ij, bV, a1, fa⟩ := Qi.eA Qh
 obtain ⟨xs, iP, bn, dX, b9⟩ := Qf bA fa _ ds jb tN
 have Qj : (results fn cS.tmps) = (do let vs ← fn.results.mapM (wv cS.tmps); pure (if h : vs.size = 1 then vs[0] else .tuple vs)) := by
  unfold results
  congr 1
 have rk : (results fn cS.tmps).run C.P aS = .ok (if h : xs.toArray.size = 1 then xs.toArray[0] else .tuple xs.toArray) aS := by
  rw [Qj, Array.mapM_eq_mapM_toList]
  simp [iP]
 have rO : (r.tree = true ∧ eL r (if h : xs.toArray.size = 1 then xs.toArray[0] else .tuple xs.toArray) ∧
   aC aS bV r (cV (if h : xs.toArray.size = 1 then xs.toArray[0] else .tuple xs.toArray)) (fun b => ∃ t ∈ fn.results.toList.map jH, a1 t b)) := by
  by_cases ai : ∃ d, ds = [d]
  ·obtain ⟨d, rfl⟩ := ai
   obtain ⟨x, rfl⟩ : ∃ x, xs = [x] := by
    cases xs with
    | nil => simp at bn
    | cons x xs => cases xs with
      | nil => exact ⟨x, rfl⟩
      | cons y c4 => simp at bn
   obtain ⟨b8, cu, fB, eP, gr⟩ := b9 0 d x rfl rfl
   have Qk : d = r := Ia.symm
   subst Qk
   simp only [List.flatMap_cons, List.flatMap_nil, List.append_nil] at dX
   rw [bl] at dX
   obtain ⟨cv, cE, ct, el, a4, a_, a3, c1, c6, cl⟩ := dX
   rw [bl] at a3; subst a3
   simp only [List.append_nil] at a4; subst a4
   have aA : (if h : ([x] : List Value).toArray.size = 1 then ([x] : List Value).toArray[0] else .tuple ([x] : List Value).toArray) = x := by simp
   rw [aA, eP]
   exact ⟨gr, b8, aC.mono (fun _ h => h) _ _ _ _ c1 a_⟩
  ·have zx : r = .tuple ds := by
    rw [Ia]
    cases ds with
    | nil => rfl
    | cons d ds => cases ds with
      | nil => exact (ai ⟨d, rfl⟩).elim
      | cons e ds => rfl
   have aA : (if h : xs.toArray.size = 1 then xs.toArray[0] else Value.tuple xs.toArray) = .tuple xs.toArray := by
    rw [dif_neg]
    intro e3
    have : ds.length = 1 := by rw [← bn]; simpa using e3
    obtain ⟨d, al⟩ := List.length_eq_one_iff.1 this
    exact ai ⟨d, al⟩
   rw [aA, zx]
   refine ⟨rfl, ⟨xs.toArray, rfl, by simpa using bn, fun k d x al aA => ?_⟩, ?_⟩
   ·obtain ⟨b8, cu, fB, eP, _⟩ := b9 k d x al (by simpa using aA)
    exact ⟨(H_ cu b8).2, cu, fB⟩
   ·rw [aC]
    simpa [cV] using dX
 have post : ∀ (v : Value), (r.tree = true ∧ eL r v ∧ aC aS bV r (cV v) (fun b => ∃ t ∈ fn.results.toList.map jH, a1 t b)) → ∃ tG ct, bT w F X tG ct (gf (r :: outs)) (hL (v :: vs)) aS := by
  rintro v ⟨v1, v2, tO⟩
  have D9 : ∀ i, (outs.getD i .hole).gD = true → outs.getD i .hole = az i ∧ i ∈ fx ∧ i ∉ fn.results.toList.map jH := by
   intro i ar
   cases cm : outs[i]? with
   | none => simp [List.getD, cm, I.gD] at ar
   | some o =>
     have e : outs.getD i .hole = o := by simp [List.getD, cm]
     rw [e] at ar ⊢
     rcases vD i o cm with h | h
     ·subst h; simp [I.gD] at ar
     ·exact ⟨h.1, h.2.2⟩
  refine ⟨bV, fun t b => match t with | 0 => ∃ t ∈ fn.results.toList.map jH, a1 t b | i + 1 => (outs.getD i .hole).gD = true ∧ a1 i b, fa.hP, fa.h7, fa.gB, ?_, ?_, ?_, ?_, ?_, fa.old, fa.size, fa.os, fa.tape, fa.output⟩
  ·intro t b ae
   cases t with
   | zero => obtain ⟨t, _, ae⟩ := ae; exact fa.fz t b ae
   | succ i => exact fa.fz i b ae.2
  ·intro t b ae
   cases t with
   | zero => obtain ⟨t, _, ae⟩ := ae; exact fa.gH t b ae
   | succ i => exact fa.gH i b ae.2
  ·intro t u b eb ae hu
   cases t with
   | zero =>
     obtain ⟨t, bh, ae⟩ := ae
     cases u with
     | zero => exact eb rfl
     | succ j =>
       refine fa.gm t j b (fun e => ?_) ae hu.2
       subst e; exact (D9 t hu.1).2.2 bh
   | succ i =>
     cases u with
     | zero =>
       obtain ⟨t, bh, hu⟩ := hu
       refine fa.gm t i b (fun e => ?_) hu ae.2
       subst e; exact (D9 t ae.1).2.2 bh
     | succ j => exact fa.gm i j b (by omega) ae.2 hu.2
  ·intro t b ae
   cases t with
   | zero => obtain ⟨t, _, ae⟩ := ae; exact fa.ew t b ae
   | succ i => exact fa.ew i b ae.2
  ·intro t
   cases t with
   | zero => exact (aV.da v1).2 ⟨v2, tO⟩
   | succ i =>
     show aV aS bV (gf (r :: outs)) (hL (v :: vs)) (outs.getD i .hole) (vs.getD i undef) (fun b => (outs.getD i .hole).gD = true ∧ a1 i b)
     cases ar : (outs.getD i .hole).gD with
     | false =>
       have : outs.getD i .hole = .hole := by
        cases cm : outs[i]? with
        | none => simp [List.getD, cm]
        | some o =>
          have e : outs.getD i .hole = o := by simp [List.getD, cm]
          rw [e] at ar ⊢
          rcases vD i o cm with h | h
          ·exact h
          ·rw [h.2.1] at ar; cases ar
       rw [this, aV]; trivial
     | true =>
       obtain ⟨mF, kF, nU⟩ := D9 i ar
       have bh := (qk ar).2.1
       have i0 := fa.en i
       rw [← mF] at i0
       obtain ⟨bc, bG⟩ := (aV.da bh).1 i0
       have a2 : cS.tmps.getD i undef = vs.getD i undef := ij i kF
       rw [a2] at bc bG
       exact (aV.da bh).2 ⟨bc, aC.mono (fun _ h => h) _ _ _ _ (fun b ae => ⟨rfl, ae⟩) bG⟩
 rcases he with rfl | rfl
 ·exact ⟨al, _, rk, _, rfl, post _ rO⟩
 ·exact ⟨al, _, rk, _, rfl, post _ rO⟩
theorem aT.of_wp (bA : C.fo) {f : FuncId} {fn : Func} {c : Code} {dE : R} {fx : List Nat} {as outs : List I} {r : I} (bF : C.P.funcs[f]? = some fn) (ae : fn.body = some c)
  (k3 : (fn.name == "runtime.NumGoroutine") = false) (ah : bw ⟨fn.ntmps, fx⟩ c = some dE.strip) (bd : as.length ≤ fn.ntmps)
  (h : dj C dE (fun e s => (e = .normal ∨ e = .ret) ∧ eA (Ends C fx fn.results.toList r outs) s) (gf as)) (ax : dE.plain = true := by kernel_rfl) : aT C f as r outs :=
 fun w F X S vs hl a7 => D7 bA bF ae k3 bd hl a7 fun a nY _ => H9 bA c (by rw [R.D2]; exact ah) (R.zu dE (R.H0 dE ax)) (zv dE h) nY
end
def num : Nat → List I → List (Nat × I)
 | _, [] => []
 | k, a :: as => (k, a) :: num (k + 1) as
theorem Ql : ∀ (as : List I) (k t : Nat), aa (num k as) (k + t) = as.getD t .hole := by
 intro as
 induction as with
 | nil => intro k t; simp [num, aa]
 | cons a as ih =>
   intro k t
   cases t with
   | zero => simp [num, aa]
   | succ t =>
     have := ih (k + 1) t
     simp only [num, aa]
     rw [if_neg (by omega)]
     rw [show k + (t + 1) = k + 1 + t by omega, this]
     simp
theorem zy (as : List I) : gf as = aa (num 0 as) := by
 funext t
 have := Ql as 0 t
 rw [Nat.zero_add] at this
 rw [this]; rfl
theorem kH (l : List (Nat × I)) (t : Nat) (d : I) : dr (aa l) t d = aa ((t, d) :: l) := by
 funext u; simp only [dr, aa]
def n1 (t : Nat) : List (Nat × I) → List (Nat × I)
 | [] => []
 | (u, d) :: l => (u, cP t d) :: n1 t l
def rP (t : Nat) : List (Nat × I) → List (Nat × I)
 | [] => []
 | (u, d) :: l => (u, cc t d) :: rP t l
theorem wx (t : Nat) : ∀ l : List (Nat × I), ly t (aa l) = aa (n1 t l) := by
 intro l
 funext u
 induction l with
 | nil => rfl
 | cons p l ih =>
   obtain ⟨v, d⟩ := p
   simp only [ly, aa, n1] at ih ⊢
   split
   ·rfl
   ·exact ih
theorem Qm (t : Nat) : ∀ l : List (Nat × I), iJ t (aa l) = aa (rP t l) := by
 intro l
 funext u
 induction l with
 | nil => rfl
 | cons p l ih =>
   obtain ⟨v, d⟩ := p
   simp only [iJ, aa, rP] at ih ⊢
   split
   ·rfl
   ·exact ih
def iR (k : List Nat) (s : au) : List (Nat × I) := k.map fun t => (t, s t)
section
variable {C : cn} {l : List (Nat × I)}
def fZ.rQ : fZ → Bool
 | .call _ _ => true
 | .ad _ => false
 | .ag _ => false
 | .pick _ _ _ => false
 | .ey _ => false
 | .c7 _ _ => false
 | .fX _ _ => false
 | .eh _ _ _ => false
 | .aD _ _ => false
 | .cC _ _ _ => false
 | .dP _ => false
 | .aq _ _ _ _ => false
 | .un _ _ => false
 | .fW _ _ _ => false
 | .ia _ _ => false
 | .eU _ _ _ => false
 | .fA _ _ _ _ => false
 | .aU _ _ _ => false
 | .bK _ _ _ => false
 | .idx _ _ _ => false
 | .ex _ _ => false
 | .len _ _ => false
 | .app _ _ _ _ => false
 | .shr _ => true
 | .m8 _ _ _ _ => false
 | .cap _ _ => false
 | .oS _ _ _ => false
 | .bad => false
 | .l3 _ _ _ _ => true
 | .j1 _ _ _ => true
 | .jz _ _ => false
variable {Q : Exit → au → Prop}
def I.D_ : I → Bool
 | .tuple _ => true
 | _ => false
theorem Ends.one {fx : List Nat} {t : Nat} {r : I} {s : au} (ai : s t = r) (aj : (r.tree && !r.D_) = true) : Ends C fx [.tmp t] r [] s := by
 simp only [Bool.and_eq_true, Bool.not_eq_true'] at aj
 obtain ⟨aj, zz⟩ := aj
 have aP : ∀ vs, r ≠ .tuple vs := fun vs e => by subst e; simp [I.D_] at zz
 refine ⟨[r], ?_, rfl, by simp, fun i o h => by simp at h⟩
 have : qq C s (.tmp t) = some r := by
  simp only [qq, ai, aj, if_true]
  try (cases r <;> first | rfl | exact (aP _ rfl).elim)
 simp only [List.map_cons, List.map_nil, this]
end
section
variable {C : cn} {l : List (Nat × I)} {Q : Exit → au → Prop}
theorem aT.outs {f : FuncId} {as : List I} {r : I} {mF kF : List I} (h : aT C f as r mF) (he : gf mF = gf kF) : aT C f as r kF := by
 intro w F X S vs hl a7
 refine nf.mono (h w F X S vs hl a7) ?_
 rintro v aS ⟨bV, a1, bB⟩
 refine ⟨bV, a1, ?_⟩
 have : gf (r :: kF) = gf (r :: mF) := by
  funext t
  cases t with
  | zero => rfl
  | succ t => exact (congrFun he t).symm
 rw [this]; exact bB
def lH : List I → List I → List cL
 | a :: as, d :: ds => ⟨a, false, d, .hole⟩ :: lH as ds
 | _, _ => []
theorem Qn {s : au} : ∀ (as ds : List I), views s as = some ds → (lH as ds).map (·.a) = as ∧ (lH as ds).map (·.d) = ds ∧ (∀ p ∈ lH as ds, p.ok s ∧ p.g = false ∧ p.o = .hole ∧ p.a ∈ as) ∧ ib (lH as ds) = true ∧
  gf ((lH as ds).map (·.o)) = gf [] ∧ (∀ pF, fb pF (lH as ds) = pF) ∧ (∀ pF, hK pF (lH as ds) = pF) := by
 intro as
 induction as with
 | nil =>
   intro ds h
   simp only [views, Option.some.injEq] at h; subst h
   exact ⟨rfl, rfl, (fun p ax => by cases ax), rfl, rfl, fun _ => rfl, fun _ => rfl⟩
 | cons a as ih =>
   intro ds h
   simp only [views] at h
   split at h
   ·rename_i d Qo ai aj
    simp only [Option.some.injEq] at h; subst h
    obtain ⟨a4, a_, a3, c1, c6, cl, cf⟩ := ih Qo aj
    refine ⟨by simp only [lH, List.map_cons, a4], by simp only [lH, List.map_cons, a_], ?_, ?_, ?_, ?_, ?_⟩
    ·intro p ax
     simp only [lH, List.mem_cons] at ax
     rcases ax with rfl | ax
     ·exact ⟨by simp only [cL.ok]; exact ai, rfl, rfl, by simp⟩
     ·obtain ⟨bc, bG, cB, eC⟩ := a3 p ax
      exact ⟨bc, bG, cB, by simp [eC]⟩
    ·simp only [lH, ib, c1, Bool.and_true, List.all_eq_true]
     intro p ax
     simp [(a3 p ax).2.1]
    ·funext t
     cases t with
     | zero => rfl
     | succ t => exact (congrFun c6 t).trans (by simp [gf])
    ·intro pF; exact cl pF
    ·intro pF; exact cf pF
   ·cases h
end
structure fD where
 bN : List Nat
 H : List Nat
 T : List Nat
 c : Bool
mutual
def I.clean : I → Bool
 | .hole => false
 | .fn _ cap => I.tP cap
 | _ => true
def I.tP : List I → Bool
 | [] => true
 | d :: ds => d.clean && I.tP ds
end
mutual
theorem Ib {x : Nat} : ∀ a : I, (cc x a).clean = true → cc x a = a
 | .h y q, h => by
   simp only [cc] at h ⊢
   split
   ·rename_i e; rw [if_pos e] at h
    split
    ·rfl
    ·rename_i gG; rw [if_neg gG] at h; simp [I.clean] at h
   ·rfl
 | .ax y q, h => by
   simp only [cc] at h ⊢
   split
   ·rename_i e; rw [if_pos e] at h; simp [I.clean] at h
   ·rfl
 | .ae y q, h => rfl
 | .fn f cap, h => by simp only [cc, I.clean] at h ⊢; rw [Ic cap h]
 | .hole, _ => rfl
 | .bool _, _ => rfl
 | .fi, _ => rfl
 | .int _ _, _ => rfl
 | .str _, _ => rfl
 | .dC, _ => rfl
 | .bg, _ => rfl
 | .slice _, _ => rfl
 | .aw _ _, _ => rfl
 | .ref _, _ => rfl
 | .a8 _, _ => rfl
 | .agg _, _ => rfl
 | .tuple _, _ => rfl
theorem Ic {x : Nat} : ∀ ds : List I, I.tP (ix x ds) = true → ix x ds = ds
 | [], _ => rfl
 | d :: ds, h => by
   simp only [ix, I.tP, Bool.and_eq_true] at h ⊢
   rw [Ib d h.1, Ic ds h.2]
end
mutual
theorem Ie {x : Nat} : ∀ a : I, (cP x a).clean = true → cP x a = a
 | .h y q, h => by
   simp only [cP] at h ⊢
   split
   ·rename_i e; rw [if_pos e] at h; simp [I.clean] at h
   ·rfl
 | .ax y q, h => by
   simp only [cP] at h ⊢
   split
   ·rename_i e; rw [if_pos e] at h; simp [I.clean] at h
   ·rfl
 | .ae y q, h => by
   simp only [cP] at h ⊢
   split
   ·rename_i e; rw [if_pos e] at h; simp [I.clean] at h
   ·rfl
 | .fn f cap, h => by simp only [cP, I.clean] at h ⊢; rw [Ig cap h]
 | .hole, _ => rfl
 | .bool _, _ => rfl
 | .fi, _ => rfl
 | .int _ _, _ => rfl
 | .str _, _ => rfl
 | .dC, _ => rfl
 | .bg, _ => rfl
 | .slice _, _ => rfl
 | .aw _ _, _ => rfl
 | .ref _, _ => rfl
 | .a8 _, _ => rfl
 | .agg _, _ => rfl
 | .tuple _, _ => rfl
theorem Ig {x : Nat} : ∀ ds : List I, I.tP (iX x ds) = true → iX x ds = ds
 | [], _ => rfl
 | d :: ds, h => by
   simp only [iX, I.tP, Bool.and_eq_true] at h ⊢
   rw [Ie d h.1, Ig ds h.2]
end
theorem Qp {k : oT} {x : Nat} {a : I} (h : (k.app x a).clean = true) : k.app x a = a := by
 cases k with
 | no => rfl
 | cc => exact Ib a h
 | cP => exact Ie a h
theorem Qq : ∀ (ms : List gM) (u : Nat) (a : I), (∀ m ∈ ms, m.x ≠ u) → (jA ms u a).clean = true → jA ms u a = a := by
 intro ms
 induction ms with
 | nil => intros; rfl
 | cons m ms ih =>
   intro u a aA ay
   simp only [jA] at ay ⊢
   have e := ih u _ (fun hX rR => aA hX (by simp [rR])) ay
   have hm : m.at u a = m.k.app m.x a := by
    simp only [gM.at]; rw [if_neg (fun e => aA m (by simp) e.symm)]
   rw [e, hm]
   rw [e, hm] at ay
   exact Qp ay
theorem Qr : ∀ (ms : List gM) (u : Nat) (a : I), (∀ m ∈ ms, m.x ≠ u ∧ m.x ∉ a.ah) → jA ms u a = a := by
 intro ms
 induction ms with
 | nil => intros; rfl
 | cons m ms ih =>
   intro u a aA
   simp only [jA]
   have hm : m.at u a = a := by
    simp only [gM.at]; rw [if_neg (fun e => (aA m (by simp)).1 e.symm)]
    exact v3 (.inr (aA m (by simp)).2)
   rw [hm]
   exact ih u a fun hX rR => aA hX (by simp [rR])
theorem Qs (m : gM) : ∀ (ms : List gM) (u : Nat) (a : I), (∀ hX ∈ ms, hX.x ≠ m.x ∧ hX.x ∉ m.d.ah ∧ m.x ∉ hX.d.ah) → jA ms u (m.at u a) = m.at u (jA ms u a) := by
 intro ms
 induction ms with
 | nil => intros; rfl
 | cons n ms ih =>
   intro u a aA
   simp only [jA]
   have bd := aA n (by simp)
   have ay : n.at u (m.at u a) = m.at u (n.at u a) := by
    simp only [gM.at]
    by_cases a4 : u = n.x
    ·subst a4
     rw [if_pos rfl, if_neg bd.1, if_pos rfl]
     exact (v3 (.inr bd.2.2)).symm
    ·rw [if_neg a4]
     by_cases a_ : u = m.x
     ·subst a_
      rw [if_pos rfl, if_pos rfl]
      exact v3 (.inr bd.2.1)
     ·rw [if_neg a_, if_neg a4, if_neg a_]
      exact O1 _ _ _ _ _
   rw [ay]
   exact ih u _ fun hX rR => aA hX (by simp [rR])
theorem Qt : ∀ (ms kE : List gM) (s : au), (∀ m ∈ ms, ∀ n ∈ kE, n.x ≠ m.x ∧ n.x ∉ m.d.ah ∧ m.x ∉ n.d.ah) → dw kE (dw ms s) = dw ms (dw kE s) := by
 intro ms
 induction ms with
 | nil => intros; rfl
 | cons m ms ih =>
   intro kE s h
   have e : ∀ s, dw (m :: ms) s = dw ms (dw [m] s) := fun s => lg [m] ms s
   rw [e, e, ih kE _ (fun hX rR => h hX (by simp [rR]))]
   congr 1
   funext u
   simp only [dw, jA]
   exact Qs m kE u _ (h m (by simp))
def Ea (C : cn) (s : au) (f : aG) (args : List aG) (K : List Nat → I → au → Prop) : Prop :=
 ∃ (g : FuncId) (caps : List I) (ps : List cL) (r : I), aR s f = .fn g caps ∧ I.dI caps = true ∧ ps.map (·.a) = args.map (aR s) ++ caps ∧ (∀ p ∈ ps, p.ok s) ∧ ib ps = true ∧
   aT C g (ps.map (·.d)) r (ps.map (·.o)) ∧ r.res = true ∧ (jB ps = true → r.cW = true ∧ ∀ p ∈ ps, p.o.cW = true) ∧ K (I.d_ ((ps.filter (·.g)).map (·.a))) r (hK (fb s ps) ps)
def nk (C : cn) (s : au) (bM : fZ) (K : List Nat → I → au → Prop) : Prop :=
 match bM with
 | .call f args => ∃ (g : FuncId) (caps : List I) (ps : List cL) (r : I), aR s f = .fn g caps ∧ I.dI caps = true ∧ ps.map (·.a) = args.map (aR s) ++ caps ∧ (∀ p ∈ ps, p.ok s) ∧ ib ps = true ∧
   aT C g (ps.map (·.d)) r (ps.map (·.o)) ∧ r.res = true ∧ (jB ps = true → r.cW = true ∧ ∀ p ∈ ps, p.o.cW = true) ∧ K (I.d_ ((ps.filter (·.g)).map (·.a))) r (hK (fb s ps) ps)
 | .shr bM => ∃ av s1, bU C s bM = some (av, s1) ∧ av.tree = true ∧ (∀ vs, av ≠ .tuple vs) ∧ K (dz s bM) av.share s1
 | .l3 f args u x => s u = .h x [] ∧ (s x).own = true ∧ Ea C s f args fun cT av s1 => s1 u = .hole ∧ (s1 x).own = true ∧ K (u :: cT) av (dr s1 u (.h x []))
 | .j1 f args us => k1 s (i1 s us) = true ∧ Ea C s f args fun cT av s1 => k1 s1 (i1 s us) = true ∧ K (us ++ cT) av (l6 s1 (i1 s us))
 | bM => ∃ av s1, bU C s bM = some (av, s1) ∧ K (dz s bM) av s1
def iS (s : au) (bN : List Nat) (dst : Option Nat) (cT : List Nat) (av : I) : fD :=
 ⟨bN, bN.flatMap (fun u => (s u).ah) ++ av.ah, dst.toList ++ cT, bN.all fun u => (s u).clean⟩
def mI (C : cn) (s : au) (o : cI) (K : fD → au → Prop) : Prop :=
 match o.guard with
 | none => nk C s o.bM fun cT av s1 => K (iS s (use s o.bM) o.dst cT av) (fin s1 o.dst av)
 | some (t, b) => match s t with
   | .bool fU => if fU = b then nk C s o.bM (fun cT av s1 => K (iS s (t :: use s o.bM) o.dst cT av) (fin s1 o.dst av)) else K (iS s [t] o.dst [] (.tuple [])) (fin s o.dst (.tuple []))
   | .tuple [] => K (iS s [t] o.dst [] (.tuple [])) (fin s o.dst (.tuple []))
   | _ => False
def oZ : Option (List fD) → fD → Option (List fD)
 | none, _ => none
 | some l, f => some (f :: l)
def cy (C : cn) (s : au) : List cI → Option (List fD) → (Option (List fD) → au → Prop) → Prop
 | [], acc, K => K acc s
 | o :: os, acc, K => mI C s o fun f s1 => cy C s1 os (oZ acc f) K
section
variable {C : cn}
theorem Ih {s : au} {bM : fZ} {K : List Nat → I → au → Prop} {dt : I → au → Prop} (aE : ∀ cT av s, K cT av s → dt av s) (h : nk C s bM K) : ni C s bM dt := by
 cases bM with
 | call f args =>
   obtain ⟨g, caps, ps, r, ai, gg, aj, aP, bb, b5, cF, cq, fO⟩ := h
   exact ⟨g, caps, ps, r, ai, gg, aj, aP, bb, b5, cF, cq, aE _ _ _ fO⟩
 | l3 f args u x =>
   obtain ⟨b8, cu, g, caps, ps, r, ai, gg, aj, aP, bb, b5, cF, cq, fO, iI, hO⟩ := h
   exact ⟨b8, cu, g, caps, ps, r, ai, gg, aj, aP, bb, b5, cF, cq, fO, iI, aE _ _ _ hO⟩
 | j1 f args us =>
   obtain ⟨cu, g, caps, ps, r, ai, gg, aj, aP, bb, b5, cF, cq, fO, iI⟩ := h
   exact ⟨cu, g, caps, ps, r, ai, gg, aj, aP, bb, b5, cF, cq, fO, aE _ _ _ iI⟩
 | shr bM =>
   obtain ⟨av, s1, ai, aj, aP, bb⟩ := h
   exact ⟨av, s1, ai, aj, aP, aE _ _ _ bb⟩
 | _ =>
   obtain ⟨av, s1, ai, aj⟩ := h
   exact ⟨av, s1, ai, aE _ _ _ aj⟩
theorem Qu {s : au} {o : cI} {K : fD → au → Prop} {dt : au → Prop} (aE : ∀ f s, K f s → dt s) (h : mI C s o K) : lj C s o dt := by
 unfold mI at h
 unfold lj
 split
 ·rename_i b6; rw [b6] at h; exact Ih (fun _ _ _ => aE _ _) h
 ·rename_i t b b6
  rw [b6] at h
  simp only at h
  split
  ·rename_i fU ah
   rw [ah] at h
   simp only at h
   split
   ·rename_i ae; rw [if_pos ae] at h; exact Ih (fun _ _ _ => aE _ _) h
   ·rename_i ae; rw [if_neg ae] at h; exact aE _ _ h
  ·rename_i ah; rw [ah] at h; exact aE _ _ h
  ·rename_i ai aj
   split at h
   ·exact ai _ (by assumption)
   ·exact aj (by assumption)
   ·exact h
theorem rS {K : au → Prop} : ∀ {ros : List cI} {s : au} {acc : Option (List fD)} {dt : Option (List fD) → au → Prop}, (∀ a s, dt a s → K s) → cy C s ros acc dt → k2 C s ros K := by
 intro ros
 induction ros with
 | nil => intro s acc dt aE h; exact aE _ _ h
 | cons o ros ih => intro s acc dt aE h; exact Qu (fun f s h => ih aE h) h
theorem Ii {q : List Nat} {a d : I} (h : I.sub q a = some d) (dc : q ≠ [] ∨ d.ah = []) : a.ah = [] := by
 cases q with
 | nil =>
   simp only [I.sub, Option.some.injEq] at h; subst h
   exact dc.resolve_left (fun e => e rfl)
 | cons k q => cases a <;> first | rfl | (simp [I.sub] at h)
def zA (s : au) (p : cL) (e : I → Prop) : Prop := p.g = true → ∃ x q d, p.a = .h x q ∧ I.sub q (s x) = some d ∧ e d ∧ (p.o = .hole ∨ p.o.gD = true)
theorem Ij {d : I} (h : d.gD = true) : d.ah = [] := DL (qk h).2.1
theorem Ik {d : I} (h : d.gD = true) : d.dh.ah = [] := by cases d <;> first | rfl | (simp [I.gD] at h)
theorem Il {p : cL} {ps : List cL} (h : ib (p :: ps) = true) : ib ps = true ∧ ∀ cA ∈ ps, (p.g = true ∨ cA.g = true) → ∀ u ∈ p.a.ah, u ∉ cA.a.ah := by
 simp only [ib, Bool.and_eq_true, List.all_eq_true, Bool.or_eq_true, Bool.not_eq_true'] at h
 refine ⟨h.2, fun cA eQ b6 u hu => ?_⟩
 rcases h.1 cA eQ with e | e
 ·rcases b6 with b6 | b6 <;> simp [b6] at e
 ·simpa using e u hu
def pG (ps : List cL) : List Nat := I.d_ ((ps.filter (·.g)).map (·.a))
theorem tQ (p : cL) (ps : List cL) : (∀ u ∈ pG ps, u ∈ pG (p :: ps)) ∧ (p.g = true → ∀ u ∈ p.a.ah, u ∈ pG (p :: ps)) := by
 unfold pG
 by_cases b6 : p.g = true
 ·simp only [List.filter_cons, b6, if_true, List.map_cons, I.d_, List.mem_append]
  exact ⟨fun u h => .inr h, fun _ u h => .inl h⟩
 ·simp only [List.filter_cons, b6]
  exact ⟨fun u h => h, fun h => by simp at h⟩
theorem Qv {p : cL} {ps : List cL} (h : p ∈ ps) : ∀ u ∈ p.a.ah, u ∈ I.d_ (ps.map (·.a)) := by
 induction ps with
 | nil => cases h
 | cons cA ps ih =>
   intro u hu
   simp only [List.map_cons, I.d_, List.mem_append]
   rcases List.mem_cons.1 h with rfl | h
   ·exact .inl hu
   ·exact .inr (ih h u hu)
theorem Qw : ∀ (ps : List cL) (s : au), (∀ p ∈ ps, zA s p (fun d => d = p.d ∧ p.d.gD = true)) → ib ps = true →
  (∃ ms : List gM, (∀ m ∈ ms, m.x ∈ pG ps ∧ m.d.ah = []) ∧ ∀ az, ee (I.d_ (ps.map (·.a))) az s → fb az ps = dw ms az) ∧ ∀ p ∈ ps, zA (fb s ps) p (fun d => d = p.d.dh ∧ p.d.gD = true) := by
 intro ps
 induction ps with
 | nil => intro s _ _; exact ⟨⟨[], by simp, fun az _ => rfl⟩, fun p ax => by cases ax⟩
 | cons p ps ih =>
   intro s b6 kD
   obtain ⟨nT, nd⟩ := Il kD
   by_cases lI : p.g = true
   ·obtain ⟨x, q, d, cw, ah, ⟨rfl, al⟩, cm⟩ := b6 p (by simp) lI
    have kv : (I.put q p.d.dh (s x)).ah = [] := v5 q _ _ _ ah (.inl (qk al).1) fun _ => Ik al
    have wy : ∀ az : au, az x = s x → p.take az = dw [⟨.cc, x, I.put q p.d.dh (s x)⟩] az := by
     intro az e
     simp only [cL.take, lI, if_true, cw, e, vY]
    have eb : ∀ cA ∈ ps, ∀ cz ja, cA.a = .h cz ja → cz ≠ x := by
     intro cA eQ cz ja e gG
     have := nd cA eQ (.inl lI) x (by simp [cw, I.ah])
     rw [e, gG] at this; simp [I.ah] at this
    have ql : ∀ cz, cz ≠ x → (s cz).ah = [] → dw [⟨.cc, x, I.put q p.d.dh (s x)⟩] s cz = s cz := by
     intro cz Di ba
     simp only [dw, jA, gM.at]
     rw [if_neg Di]
     exact v3 (.inr (by rw [ba]; simp))
    obtain ⟨⟨ms, fC, gI⟩, hH⟩ := ih (dw [⟨.cc, x, I.put q p.d.dh (s x)⟩] s) (fun cA eQ Eb => by
     obtain ⟨cz, ja, bE, rG, fq, hb, wz⟩ := b6 cA (by simp [eQ]) Eb
     refine ⟨cz, ja, bE, rG, ?_, hb, wz⟩
     rw [ql cz (eb cA eQ cz ja rG) (Ii fq (.inr (by rw [hb.1]; exact Ij hb.2)))]; exact fq) nT
    refine ⟨⟨[⟨.cc, x, I.put q p.d.dh (s x)⟩] ++ ms, ?_, ?_⟩, ?_⟩
    ·intro m hm
     rcases List.mem_append.1 hm with hm | hm
     ·simp only [List.mem_singleton] at hm; subst hm
      exact ⟨(tQ p ps).2 lI x (by simp [cw, I.ah]), kv⟩
     ·exact ⟨(tQ p ps).1 _ (fC m hm).1, (fC m hm).2⟩
    ·intro az fq
     simp only [List.map_cons, I.d_] at fq
     have e : az x = s x := fq x (by simp [cw, I.ah])
     rw [lg]
     show fb (p.take az) ps = _
     rw [wy az e]
     exact gI _ (ee.dw fq.right _)
    ·have a4 : fb s (p :: ps) = fb (dw [⟨.cc, x, I.put q p.d.dh (s x)⟩] s) ps := by
      show fb (p.take s) ps = _
      rw [wy s rfl]
     rw [a4]
     intro cA eQ
     rcases List.mem_cons.1 eQ with rfl | eQ
     ·intro _
      refine ⟨x, q, cA.d.dh, cw, ?_, ⟨rfl, al⟩, cm⟩
      have a2 : dw [⟨.cc, x, I.put q cA.d.dh (s x)⟩] s x = I.put q cA.d.dh (s x) := by
       simp only [dw, jA, gM.at, if_true]
      rw [DI (by rw [a2]; exact kv) (fun Qx Qy auW => ?_), a2]
      ·exact HE q _ _ _ ah
      ·exact nd Qx Qy (.inl lI) x (by simp [cw, I.ah])
     ·exact hH cA eQ
   ·have wy : ∀ az : au, p.take az = az := by intro az; simp only [cL.take, lI]; rfl
    obtain ⟨⟨ms, fC, gI⟩, hH⟩ := ih s (fun cA eQ => b6 cA (by simp [eQ])) nT
    refine ⟨⟨ms, fun m hm => ⟨(tQ p ps).1 _ (fC m hm).1, (fC m hm).2⟩, ?_⟩, ?_⟩
    ·intro az fq
     simp only [List.map_cons, I.d_] at fq
     show fb (p.take az) ps = _
     rw [wy]; exact gI az fq.right
    ·intro cA eQ
     have a4 : fb s (p :: ps) = fb s ps := by show fb (p.take s) ps = _; rw [wy]
     rw [a4]
     rcases List.mem_cons.1 eQ with rfl | eQ
     ·intro h; exact (lI h).elim
     ·exact hH cA eQ
theorem Qz : ∀ (ps : List cL) (s : au), (∀ p ∈ ps, zA s p (fun d => d = p.d.dh ∧ p.d.gD = true)) → ib ps = true →
  (∃ ms : List gM, (∀ m ∈ ms, m.x ∈ pG ps ∧ m.d.ah = []) ∧ ∀ az, ee (I.d_ (ps.map (·.a))) az s → hK az ps = dw ms az) := by
 intro ps
 induction ps with
 | nil => intro s _ _; exact ⟨[], by simp, fun az _ => rfl⟩
 | cons p ps ih =>
   intro s b6 kD
   obtain ⟨nT, nd⟩ := Il kD
   by_cases lI : p.g = true ∧ p.o ≠ .hole
   ·obtain ⟨lI, QA⟩ := lI
    obtain ⟨x, q, d, cw, ah, ⟨rfl, al⟩, cm⟩ := b6 p (by simp) lI
    have cm : p.o.gD = true := cm.resolve_left QA
    have kv : (I.put q p.o (s x)).ah = [] := by
     cases q with
     | nil => simp only [I.put]; exact Ij cm
     | cons k q => exact v5 _ _ _ _ ah (.inr (by simp)) (by simp)
    have Ec : ∀ az : au, az x = s x → p.iZ az = dw [⟨.cP, x, I.put q p.o (s x)⟩] az := by
     intro az e
     simp only [cL.iZ, lI, if_true, cw]
     rw [e, Hp]
    have eb : ∀ cA ∈ ps, ∀ cz ja, cA.a = .h cz ja → cz ≠ x := by
     intro cA eQ cz ja e gG
     have := nd cA eQ (.inl lI) x (by simp [cw, I.ah])
     rw [e, gG] at this; simp [I.ah] at this
    obtain ⟨ms, fC, gI⟩ := ih (dw [⟨.cP, x, I.put q p.o (s x)⟩] s) (fun cA eQ Eb => by
     obtain ⟨cz, ja, bE, rG, fq, hb, wz⟩ := b6 cA (by simp [eQ]) Eb
     refine ⟨cz, ja, bE, rG, ?_, hb, wz⟩
     have ba := Ii fq (.inr (by rw [hb.1]; exact Ik hb.2))
     have ql : dw [⟨.cP, x, I.put q p.o (s x)⟩] s cz = s cz := by
      simp only [dw, jA, gM.at]
      rw [if_neg (eb cA eQ cz ja rG)]
      exact v3 (.inr (by rw [ba]; simp))
     rw [ql]; exact fq) nT
    refine ⟨[⟨.cP, x, I.put q p.o (s x)⟩] ++ ms, ?_, ?_⟩
    ·intro m hm
     rcases List.mem_append.1 hm with hm | hm
     ·simp only [List.mem_singleton] at hm; subst hm
      exact ⟨(tQ p ps).2 lI x (by simp [cw, I.ah]), kv⟩
     ·exact ⟨(tQ p ps).1 _ (fC m hm).1, (fC m hm).2⟩
    ·intro az fq
     simp only [List.map_cons, I.d_] at fq
     have e : az x = s x := fq x (by simp [cw, I.ah])
     rw [lg]
     show hK (p.iZ az) ps = _
     rw [Ec az e]
     exact gI _ (ee.dw fq.right _)
   ·have Ec : ∀ az : au, p.iZ az = az := by
     intro az
     unfold cL.iZ
     split
     ·rename_i hI
      have : p.o = .hole := by
       by_cases h : p.o = .hole
       ·exact h
       ·exact (lI ⟨hI, h⟩).elim
      rw [this]
     ·rfl
    obtain ⟨ms, fC, gI⟩ := ih s (fun cA eQ => b6 cA (by simp [eQ])) nT
    refine ⟨ms, fun m hm => ⟨(tQ p ps).1 _ (fC m hm).1, (fC m hm).2⟩, ?_⟩
    intro az fq
    simp only [List.map_cons, I.d_] at fq
    show hK (p.iZ az) ps = _
    rw [Ec]; exact gI az fq.right
theorem QB {s az : au} : ∀ (a : I) (d : I), ee a.ah az s → view s a = some d → view az a = some d := by
 intro a d h
 have := DM (s := s) (az := az) a d
 intro a2
 cases a with
 | h x q => simp only [view] at a2 ⊢; rw [h x (by simp [I.ah])]; exact a2
 | ax x q => simp only [view] at a2 ⊢; rw [h x (by simp [I.ah])]; exact a2
 | fn f cap =>
   refine this (fun u hu _ => h u hu) a2
 | _ => exact a2
theorem QC {p : cL} {s az : au} (h : ee p.a.ah az s) (gd : p.ok s) : p.ok az := by
 unfold cL.ok at gd ⊢
 split
 ·rename_i b6
  rw [if_pos b6] at gd
  cases cw : p.a with
  | h x q =>
    rw [cw] at gd
    simp only at gd ⊢
    rw [h x (by simp [cw, I.ah])]; exact gd
  | _ => rw [cw] at gd; exact gd.elim
 ·rename_i b6
  rw [if_neg b6] at gd
  exact QB _ _ h gd
def zB (C : cn) (o : cI) (s : au) (kj : fD) (ms : List gM) : Prop :=
 (∀ az, ee kj.bN az s → ∀ K : au → Prop, K (dw ms az) → lj C az o K) ∧ (∀ m ∈ ms, m.x ∈ kj.T ∧ ∀ u ∈ m.d.ah, u ∈ kj.H) ∧ (∀ u ∈ kj.bN, ∀ x ∈ (s u).ah, x ∈ kj.H) ∧ (kj.c = true → ∀ u ∈ kj.bN, (s u).clean = true)
theorem Im (dst : Option Nat) (av : I) : ∃ ms : List gM, (∀ m ∈ ms, m.x ∈ dst.toList ∧ m.d = av) ∧ ∀ s1 : au, fin s1 dst av = dw ms s1 := by
 cases dst with
 | none => exact ⟨[], by simp, fun s => rfl⟩
 | some t =>
   simp only [fin]
   by_cases h : av.plain = true
   ·exact ⟨[⟨.no, t, av⟩], by simp, fun s => by rw [if_pos h, Dv]⟩
   ·exact ⟨[⟨.cP, t, av⟩], by simp, fun s => by rw [if_neg h, Hp]⟩
theorem zC {s : au} {bN : List Nat} {dst : Option Nat} {cT : List Nat} {av : I} : (∀ u ∈ (iS s bN dst cT av).bN, ∀ x ∈ (s u).ah, x ∈ (iS s bN dst cT av).H) ∧ ((iS s bN dst cT av).c = true → ∀ u ∈ (iS s bN dst cT av).bN, (s u).clean = true) := by
 refine ⟨fun u hu x aA => ?_, fun ay => ?_⟩
 ·simp only [iS, List.mem_append, List.mem_flatMap]; exact .inl ⟨u, hu, aA⟩
 ·simp only [iS, List.all_eq_true] at ay; exact ay
theorem Ed {s : au} {f : aG} {args : List aG} {K : List Nat → I → au → Prop} (h : Ea C s f args K) :
  ∃ cT av ms, K cT av (dw ms s) ∧ (∀ m ∈ ms, m.x ∈ cT ∧ m.d.ah = []) ∧ ∀ az, ee (use s (.call f args)) az s → ∀ dt : I → au → Prop, dt av (dw ms az) → zm C az f args dt := by
 obtain ⟨g, caps, ps, r, ai, gg, aj, aP, bb, b5, cF, cq, fO⟩ := h
 have QD : ∀ p ∈ ps, zA s p (fun d => d = p.d ∧ p.d.gD = true) := by
  intro p ax b6
  have := aP p ax
  simp only [cL.ok, b6, if_true] at this
  cases cw : p.a with
  | h x q => rw [cw] at this; exact ⟨x, q, p.d, rfl, this.1, ⟨rfl, this.2.1⟩, this.2.2.imp id fun h => h.1⟩
  | _ => rw [cw] at this; exact this.elim
 obtain ⟨⟨nS, ab, bj⟩, dy⟩ := Qw ps s QD bb
 obtain ⟨rE, j0, h_⟩ := Qz ps (fb s ps) dy bb
 have oQ : ∀ u ∈ I.d_ (ps.map (·.a)), u ∈ use s (.call f args) := by
  rw [aj]
  intro u hu
  simp only [use, List.mem_append]
  have key : ∀ (hR l2 : List I), u ∈ I.d_ (hR ++ l2) → u ∈ I.d_ hR ∨ u ∈ I.d_ l2 := by
   intro hR
   induction hR with
   | nil => intro l2 h; exact .inr h
   | cons a hR ih =>
     intro l2 h
     simp only [List.cons_append, I.d_, List.mem_append] at h ⊢
     rcases h with h | h
     ·exact .inl (.inl h)
     ·exact (ih l2 h).imp .inr id
  rcases key _ _ hu with hu | hu
  ·exact .inr (aG.zh u hu)
  ·refine .inl (aG.rC u ?_)
   rw [ai]; exact hu
 have gu : hK (fb s ps) ps = dw (nS ++ rE) s := by
  rw [lg, ← bj s (fun _ _ => rfl), h_ _ (fun _ _ => rfl)]
 refine ⟨pG ps, r, nS ++ rE, by rw [← gu]; exact fO, ?_, ?_⟩
 ·intro m hm
  rcases List.mem_append.1 hm with hm | hm
  ·exact ab m hm
  ·exact j0 m hm
 ·intro az ah dt aE
  have pD : ee (I.d_ (ps.map (·.a))) az s := ah.sub oQ
  have bF : ee (f.use s) az s := by simp only [use] at ah; exact ah.left
  have aA : ee (aG.nc s args) az s := by simp only [use] at ah; exact ah.right
  have a4 : hK (fb az ps) ps = dw (nS ++ rE) az := by
   rw [lg, ← bj az pD, h_]
   rw [bj az pD, bj s (fun _ _ => rfl)]
   exact ee.dw pD _
  exact ⟨g, caps, ps, r, by rw [aG.gJ bF]; exact ai, gg, by rw [aG.Dz aA]; exact aj, fun p ax => QC (pD.sub (Qv ax)) (aP p ax), bb, b5, cF, cq, by rw [a4]; exact aE⟩
mutual
theorem Io {s az : au} : ∀ (d : I), ee d.ah az s → d.fP az = d.fP s
 | .h x q, h => by simp only [I.fP]; rw [h x (by simp [I.ah])]
 | .ae x q, h => by simp only [I.fP]; rw [h x (by simp [I.ah])]
 | .fn f cap, h => by simp only [I.fP]; exact Ip cap (by simpa only [I.ah] using h)
 | .ax _ _, _ => by simp only [I.fP]
 | .hole, _ => by simp only [I.fP]
 | .bool _, _ => by simp only [I.fP]
 | .fi, _ => by simp only [I.fP]
 | .int _ _, _ => by simp only [I.fP]
 | .str _, _ => by simp only [I.fP]
 | .dC, _ => by simp only [I.fP]
 | .bg, _ => by simp only [I.fP]
 | .slice _, _ => by simp only [I.fP]
 | .aw _ _, _ => by simp only [I.fP]
 | .ref _, _ => by simp only [I.fP]
 | .a8 _, _ => by simp only [I.fP]
 | .agg _, _ => by simp only [I.fP]
 | .tuple _, _ => by simp only [I.fP]
theorem Ip {s az : au} : ∀ (ds : List I), ee (I.d_ ds) az s → I.nh az ds = I.nh s ds
 | [], _ => rfl
 | d :: ds, h => by
   simp only [I.d_] at h
   simp only [I.nh]; rw [Io d h.left, Ip ds h.right]
end
theorem Ee {s az : au} {us : List Nat} (h : ee (us.flatMap fun u => u :: (s u).ah) az s) : i1 az us = i1 s us := by
 unfold i1
 refine List.map_congr_left fun u hu => ?_
 rw [h u (List.mem_flatMap.2 ⟨u, hu, by simp⟩)]
theorem Ef {s az : au} : ∀ (L : List (Nat × I)), (∀ p ∈ L, ee p.2.ah az s) → k1 az L = k1 s L
 | [], _ => rfl
 | p :: L, h => by
   simp only [k1]; rw [Io p.2 (h p (by simp)), Ef L (fun q dc => h q (by simp [dc]))]
theorem Iq : ∀ (L : List (Nat × I)) (s : au), l6 s L = dw (L.map fun p => ⟨.no, p.1, p.2⟩) s
 | [], s => rfl
 | p :: L, s => by
   simp only [l6, List.map_cons]
   rw [Iq L, Dv]
   exact (lg [⟨.no, p.1, p.2⟩] _ s).symm
theorem QE {s : au} {bM : fZ} {K : List Nat → I → au → Prop} (h : nk C s bM K) :
  ∃ cT av ms, K cT av (dw ms s) ∧ (∀ m ∈ ms, m.x ∈ cT ∧ ∀ v ∈ m.d.ah, ∃ u ∈ use s bM, v ∈ (s u).ah) ∧ ∀ az, ee (use s bM) az s → ∀ dt : I → au → Prop, dt av (dw ms az) → ni C az bM dt := by
 have plain : (∃ av s1, bU C s bM = some (av, s1) ∧ K (dz s bM) av s1) → (∀ az (dt : I → au → Prop) av s1, bU C az bM = some (av, s1) → dt av s1 → ni C az bM dt) →
   ∃ cT av ms, K cT av (dw ms s) ∧ (∀ m ∈ ms, m.x ∈ cT ∧ ∀ v ∈ m.d.ah, ∃ u ∈ use s bM, v ∈ (s u).ah) ∧ ∀ az, ee (use s bM) az s → ∀ dt : I → au → Prop, dt av (dw ms az) → ni C az bM dt := by
  rintro ⟨av, s1, ai, aj⟩ hw
  obtain ⟨ms, a4, a_, a3⟩ := HD ai
  subst a4
  exact ⟨_, av, ms, aj, fun m hm => ⟨(a_ m hm).1, fun v a2 => by rw [(a_ m hm).2] at a2; cases a2⟩, fun az ah dt aE => hw az dt av _ (a3 az ah) aE⟩
 cases bM with
 | call f args =>
   obtain ⟨cT, av, ms, ab, bj, dy⟩ := Ed h
   exact ⟨cT, av, ms, ab, fun m hm => ⟨(bj m hm).1, fun v a2 => by rw [(bj m hm).2] at a2; cases a2⟩, fun az ah dt aE => dy az ah dt aE⟩
 | l3 f args u x =>
   obtain ⟨b8, cu, ay⟩ := h
   obtain ⟨cT, av, ms, ⟨ab, Eg, QF⟩, bj, dy⟩ := Ed ay
   have e : ∀ s : au, dr (dw ms s) u (.h x []) = dw (ms ++ [⟨.no, u, .h x []⟩]) s := fun s => by rw [lg, ← Dv]
   refine ⟨u :: cT, av, ms ++ [⟨.no, u, .h x []⟩], by rw [← e]; exact QF, ?_, ?_⟩
   ·intro m hm
    rcases List.mem_append.1 hm with hm | hm
    ·exact ⟨by simp [(bj m hm).1], fun v a2 => by rw [(bj m hm).2] at a2; cases a2⟩
    ·simp only [List.mem_singleton] at hm; subst hm
     refine ⟨by simp, fun v a2 => ⟨u, by simp [use], ?_⟩⟩
     rw [b8]; exact a2
   ·intro az ah dt aE
    have Ir : az u = s u := ah u (by simp [use])
    have ex : az x = s x := ah x (by simp [use])
    refine ⟨by rw [Ir]; exact b8, by rw [ex]; exact cu, dy az (fun y bL => ah y (by simp only [use, List.mem_cons] at bL ⊢; exact .inr (.inr bL))) _ ⟨?_, ?_, ?_⟩⟩
    ·have := ab; simp only [dw] at this ⊢; rw [Ir]; exact this
    ·have := Eg; simp only [dw] at this ⊢; rw [ex]; exact this
    ·rw [e]; exact aE
 | j1 f args us =>
   obtain ⟨cu, ay⟩ := h
   obtain ⟨cT, av, ms, ⟨ab, Eg⟩, bj, dy⟩ := Ed ay
   have e : ∀ az : au, l6 (dw ms az) (i1 s us) = dw (ms ++ (i1 s us).map fun p => ⟨.no, p.1, p.2⟩) az := fun az => by rw [lg, Iq]
   have kS : ∀ {az : au}, ee (us.flatMap fun u => u :: (s u).ah) az s → ∀ p ∈ i1 s us, ee p.2.ah az s := fun {az} ah p ax v a2 => by
    obtain ⟨u, hu, rfl⟩ := List.mem_map.1 ax
    exact ah v (List.mem_flatMap.2 ⟨u, hu, by simp [a2]⟩)
   refine ⟨us ++ cT, av, ms ++ (i1 s us).map fun p => ⟨.no, p.1, p.2⟩, by rw [← e]; exact Eg, ?_, ?_⟩
   ·intro m hm
    rcases List.mem_append.1 hm with hm | hm
    ·exact ⟨by simp [(bj m hm).1], fun v a2 => by rw [(bj m hm).2] at a2; cases a2⟩
    ·obtain ⟨p, ax, rfl⟩ := List.mem_map.1 hm
     obtain ⟨u, hu, rfl⟩ := List.mem_map.1 ax
     exact ⟨List.mem_append_left _ hu, fun v a2 => ⟨u, by simp only [use, List.mem_append, List.mem_flatMap]; exact .inl ⟨u, hu, by simp⟩, a2⟩⟩
   ·intro az ah dt aE
    simp only [use] at ah
    refine ⟨by rw [Ee ah.left, Ef _ (kS ah.left)]; exact cu, dy az ah.right _ ⟨?_, ?_⟩⟩
    ·rw [Ee ah.left, Ef _ (fun p ax => (kS ah.left p ax).dw ms)]; exact ab
    ·rw [Ee ah.left, e]; exact aE
 | shr bM =>
   obtain ⟨av, s1, ai, aj, aP, bb⟩ := h
   obtain ⟨ms, a4, a_, a3⟩ := HD ai
   subst a4
   exact ⟨_, av.share, ms, bb, fun m hm => ⟨(a_ m hm).1, fun v a2 => by rw [(a_ m hm).2] at a2; cases a2⟩, fun az ah dt aE => ⟨av, _, a3 az ah, aj, aP, aE⟩⟩
 | _ => exact plain h (fun az dt av s1 ai aj => ⟨av, s1, ai, aj⟩)
theorem QG {s : au} {o : cI} {K : fD → au → Prop} (h : mI C s o K) : ∃ kj ms, K kj (dw ms s) ∧ zB C o s kj ms := by
 have op : ∀ (bN : List Nat), (∀ u ∈ use s o.bM, u ∈ bN) → (∀ az, ee bN az s → ∀ dt : au → Prop, ni C az o.bM (fun av s1 => dt (fin s1 o.dst av)) → lj C az o dt) →
   nk C s o.bM (fun cT av s1 => K (iS s bN o.dst cT av) (fin s1 o.dst av)) → ∃ kj ms, K kj (dw ms s) ∧ zB C o s kj ms := by
  intro bN oQ oK hw
  obtain ⟨cT, av, ms, ai, aj, aP⟩ := QE hw
  obtain ⟨kE, l9, bX⟩ := Im o.dst av
  refine ⟨iS s bN o.dst cT av, ms ++ kE, ?_, ?_, ?_, zC.1, zC.2⟩
  ·rw [lg, ← bX]; exact ai
  ·intro az ah dt aE
   refine oK az ah dt (aP az (ah.sub oQ) _ ?_)
   rw [bX, ← lg]; exact aE
  ·intro m hm
   simp only [iS, List.mem_append]
   rcases List.mem_append.1 hm with hm | hm
   ·refine ⟨.inr (aj m hm).1, fun v a2 => .inl ?_⟩
    obtain ⟨u, hu, lz⟩ := (aj m hm).2 v a2
    exact List.mem_flatMap.2 ⟨u, oQ u hu, lz⟩
   ·exact ⟨.inl (l9 m hm).1, fun u hu => .inr (by rw [(l9 m hm).2] at hu; exact hu)⟩
 have skip : ∀ t, (∀ az, ee [t] az s → ∀ dt : au → Prop, dt (fin az o.dst (.tuple [])) → lj C az o dt) → K (iS s [t] o.dst [] (.tuple [])) (fin s o.dst (.tuple [])) → ∃ kj ms, K kj (dw ms s) ∧ zB C o s kj ms := by
  intro t oK aE
  obtain ⟨kE, l9, bX⟩ := Im o.dst (.tuple [])
  refine ⟨_, kE, by rw [← bX]; exact aE, ?_, ?_, zC.1, zC.2⟩
  ·intro az ah dt kB
   exact oK az ah dt (by rw [bX]; exact kB)
  ·intro m hm
   simp only [iS, List.mem_append]
   exact ⟨.inl (l9 m hm).1, fun u hu => by rw [(l9 m hm).2] at hu; simp [I.ah] at hu⟩
 unfold mI at h
 split at h
 ·rename_i b6
  exact op _ (fun _ h => h) (fun az _ dt hw => by unfold lj; rw [b6]; exact hw) h
 ·rename_i t b b6
  split at h
  ·rename_i fU ae
   split at h
   ·rename_i e
    refine op (t :: use s o.bM) (fun u hu => by simp [hu]) (fun az ah dt hw => ?_) h
    have : az t = s t := ah t (by simp)
    unfold lj
    rw [b6]
    simp only [this, ae, if_pos e]
    exact hw
   ·rename_i e
    refine skip t (fun az ah dt aE => ?_) h
    have : az t = s t := ah t (by simp)
    unfold lj
    rw [b6]
    simp only [this, ae, if_neg e]
    exact aE
  ·rename_i ae
   refine skip t (fun az ah dt aE => ?_) h
   have : az t = s t := ah t (by simp)
   unfold lj
   rw [b6]
   simp only [this, ae]
   exact aE
  ·exact h.elim
def qs (C : cn) (ros : List cI) : au → List (Nat × fD × List gM) → Prop
 | _, [] => True
 | s, e :: r => (∃ o, ros[e.1]? = some o ∧ zB C o s e.2.1 e.2.2) ∧ qs C ros (dw e.2.2 s) r
def n2 (s : au) (r : List (Nat × fD × List gM)) : au := r.foldl (fun s e => dw e.2.2 s) s
def m7 (a b : List Nat) : Bool := a.all fun x => !b.contains x
theorem tR {a b : List Nat} (h : m7 a b = true) : ∀ x ∈ a, x ∉ b := by
 intro x aA
 simp only [m7, List.all_eq_true] at h
 simpa using h x aA
def rT (a b : fD) : Bool := m7 b.T a.bN && m7 b.T a.H && m7 b.T a.T && m7 a.T b.bN && m7 a.T b.H && b.c
theorem QH {ros : List cI} {s : au} {a b : Nat × fD × List gM} {r : List (Nat × fD × List gM)} (h : qs C ros s (a :: b :: r)) (ar : rT a.2.1 b.2.1 = true) :
  qs C ros s (b :: a :: r) ∧ n2 s (b :: a :: r) = n2 s (a :: b :: r) := by
 obtain ⟨⟨QI, cw, ab, bj, dy, rp⟩, ⟨QJ, ae, j0, h_, l1, bk⟩, a7⟩ := h
 simp only [rT, Bool.and_eq_true] at ar
 obtain ⟨⟨⟨⟨⟨yK, vy⟩, CA⟩, QK⟩, CB⟩, CC⟩ := ar
 have Eh : ∀ u ∈ b.2.1.bN, dw a.2.2 s u = s u := by
  intro u hu
  refine Qq _ _ _ (fun m hm e => ?_) (bk CC u hu)
  exact tR QK m.x (bj m hm).1 (e ▸ hu)
 have Ei : ∀ u ∈ a.2.1.bN, dw b.2.2 s u = s u := by
  intro u hu
  refine Qr _ _ _ fun m hm => ⟨fun e => ?_, fun aA => ?_⟩
  ·exact tR yK m.x (h_ m hm).1 (e ▸ hu)
  ·exact tR vy m.x (h_ m hm).1 (dy u hu _ aA)
 have Is : dw b.2.2 (dw a.2.2 s) = dw a.2.2 (dw b.2.2 s) := by
  refine Qt _ _ _ fun m hm n bd => ⟨fun e => ?_, fun h => ?_, fun h => ?_⟩
  ·exact tR CA n.x (h_ n bd).1 (e ▸ (bj m hm).1)
  ·exact tR vy n.x (h_ n bd).1 ((bj m hm).2 _ h)
  ·exact tR CB m.x (bj m hm).1 ((h_ n bd).2 _ h)
 refine ⟨⟨⟨QJ, ae, ?_, h_, ?_, ?_⟩, ⟨QI, cw, ?_, bj, ?_, ?_⟩, ?_⟩, ?_⟩
 ·intro az ah K aE
  exact j0 az (fun u hu => (ah u hu).trans (Eh u hu).symm) K aE
 ·intro u hu x aA
  exact l1 u hu x (by rw [Eh u hu]; exact aA)
 ·intro ay u hu
  have := bk ay u hu
  rwa [Eh u hu] at this
 ·intro az ah K aE
  exact ab az (fun u hu => (ah u hu).trans (Ei u hu)) K aE
 ·intro u hu x aA
  rw [Ei u hu] at aA
  exact dy u hu x aA
 ·intro ay u hu
  rw [Ei u hu]
  exact rp ay u hu
 ·rw [← Is]; exact a7
 ·simp only [n2, List.foldl_cons]
  rw [Is]
theorem QL {ros : List cI} {e : Nat × fD × List gM} {post : List (Nat × fD × List gM)} : ∀ (pre : List (Nat × fD × List gM)) (s : au), qs C ros s (pre ++ e :: post) → (∀ a ∈ pre, rT a.2.1 e.2.1 = true) →
  qs C ros s (e :: (pre ++ post)) ∧ n2 s (e :: (pre ++ post)) = n2 s (pre ++ e :: post) := by
 intro pre
 induction pre with
 | nil => intro s h _; exact ⟨h, rfl⟩
 | cons a pre ih =>
   intro s h ar
   obtain ⟨ai, aj⟩ := h
   obtain ⟨bc, bG⟩ := ih _ aj fun b ae => ar b (by simp [ae])
   have ay : qs C ros s (a :: e :: (pre ++ post)) := ⟨ai, bc⟩
   obtain ⟨b8, cu⟩ := QH ay (ar a (by simp))
   refine ⟨b8, cu.trans ?_⟩
   simp only [n2, List.foldl_cons, List.cons_append] at bG ⊢
   exact bG
end
def wA : List (List Nat) → List (List Nat) → List (List Nat)
 | done, [] => done
 | done, a :: r => wA (done ++ [a ++ a.flatMap fun e => (done[e]?).getD []]) r
def tS (g9 : List (List Nat)) : List (List Nat) := wA [] g9
theorem QM {g9 : List (List Nat)} {l : List Nat} (hl : ∀ u i v, l = u ++ i :: v → ∀ e ∈ (g9[i]?).getD [], e ∈ u) : ∀ (rest pre done : List (List Nat)), g9 = pre ++ rest → done.length = pre.length →
  (∀ u i v, l = u ++ i :: v → ∀ e ∈ (done[i]?).getD [], e ∈ u) → ∀ u i v, l = u ++ i :: v → ∀ e ∈ ((wA done rest)[i]?).getD [], e ∈ u := by
 intro rest
 induction rest with
 | nil => intro pre done _ _ h; exact h
 | cons a rest ih =>
   intro pre done It hlen h
   simp only [wA]
   refine ih (pre ++ [a]) _ (by simp [It]) (by simp [hlen]) ?_
   intro u i v hu e he
   by_cases ar : i < done.length
   ·rw [List.getElem?_append_left ar] at he
    exact h u i v hu e he
   ·rw [List.getElem?_append_right (by omega)] at he
    by_cases Hn : i - done.length = 0
    ·rw [Hn] at he
     simp only [List.getElem?_cons_zero, Option.getD_some, List.mem_append, List.mem_flatMap] at he
     have zD : (g9[i]?).getD [] = a := by
      have : i = pre.length := by omega
      rw [It, this, List.getElem?_append_right (Nat.le_refl _)]; simp
     rcases he with he | ⟨gG, mG, he⟩
     ·exact hl u i v hu e (by rw [zD]; exact he)
     ·have v8 := hl u i v hu gG (by rw [zD]; exact mG)
      obtain ⟨zd, ze, rfl⟩ := List.append_of_mem v8
      have := h zd gG (ze ++ i :: v) (by rw [hu]; simp) e he
      simp [this]
    ·rw [List.getElem?_eq_none (by simp; omega)] at he
     simp at he
theorem QN {g9 : List (List Nat)} {l : List Nat} (hl : ∀ u i v, l = u ++ i :: v → ∀ e ∈ (g9[i]?).getD [], e ∈ u) : ∀ u i v, l = u ++ i :: v → ∀ e ∈ ((tS g9)[i]?).getD [], e ∈ u :=
 QM hl g9 [] [] rfl rfl fun u i v _ e he => by simp at he
def l_ (ma : List (List Nat)) : Nat → List (Nat × fD) → List fD → Bool
 | _, _, [] => true
 | j, es, f :: aB => (es.all fun e => ((ma[j]?).getD []).contains e.1 || rT e.2 f) && l_ ma (j + 1) ((j, f) :: es) aB
def Ej (ma : List (List Nat)) (a b : Nat × fD × List gM) : Prop := a.1 ∈ (ma[b.1]?).getD [] ∨ rT a.2.1 b.2.1 = true
theorem QO {ma : List (List Nat)} : ∀ (hf : List (Nat × fD × List gM)) (j : Nat) (es : List (Nat × fD)), hf.map (·.1) = (List.range hf.length).map (· + j) → l_ ma j es (hf.map (·.2.1)) = true →
  hf.Pairwise (Ej ma) ∧ ∀ e ∈ es, ∀ b ∈ hf, e.1 ∈ (ma[b.1]?).getD [] ∨ rT e.2 b.2.1 = true := by
 intro hf
 induction hf with
 | nil => intro j es _ _; exact ⟨.nil, fun e _ b ae => by cases ae⟩
 | cons a hf ih =>
   intro j es rU gd
   rw [List.length_cons, List.range_succ_eq_map, List.map_cons, List.map_cons, List.map_map] at rU
   simp only [List.cons.injEq, Nat.zero_add] at rU
   obtain ⟨cx, rU⟩ := rU
   simp only [List.map_cons, l_, Bool.and_eq_true, List.all_eq_true, Bool.or_eq_true] at gd
   obtain ⟨ai, aj⟩ := gd
   obtain ⟨bc, bG⟩ := ih (j + 1) _ (by rw [rU]; congr 1; funext x; simp; omega) aj
   refine ⟨.cons (fun b ae => ?_) bc, fun e he b ae => ?_⟩
   ·have := bG (j, a.2.1) (by simp) b ae
    simp only [Ej, cx]; exact this
   ·rcases List.mem_cons.1 ae with rfl | ae
    ·rw [cx]
     exact (ai e he).imp (fun h => by simpa using h) id
    ·exact bG e (by simp [he]) b ae
section
variable {C : cn}
theorem QP {K : Option (List fD) → au → Prop} : ∀ (os pre : List cI) (s : au) (acc : List fD), cy C s os (some acc) K →
  ∃ hf, qs C (pre ++ os) s hf ∧ hf.map (·.1) = (List.range os.length).map (· + pre.length) ∧ K (some ((hf.map (·.2.1)).reverse ++ acc)) (n2 s hf) := by
 intro os
 induction os with
 | nil => intro pre s acc h; exact ⟨[], trivial, rfl, h⟩
 | cons o os ih =>
   intro pre s acc h
   obtain ⟨kj, ms, ai, aj⟩ := QG h
   obtain ⟨hf, bc, bG, cB⟩ := ih (pre ++ [o]) _ (kj :: acc) ai
   refine ⟨(pre.length, kj, ms) :: hf, ⟨⟨o, ?_, aj⟩, ?_⟩, ?_, ?_⟩
   ·rw [List.getElem?_append_right (Nat.le_refl _)]; simp
   ·simpa using bc
   ·rw [List.length_cons, List.range_succ_eq_map, List.map_cons, List.map_cons, List.map_map, bG]
    simp only [List.cons.injEq, Nat.zero_add, true_and]
    congr 1; funext x; simp; omega
   ·simpa [n2] using cB
theorem QQ {ros : List cI} {ma : List (List Nat)} {K : au → Prop} : ∀ (l : List Nat) (hf : List (Nat × fD × List gM)) (s : au), qs C ros s hf → hf.Pairwise (Ej ma) → l.Nodup → (hf.map (·.1)).Nodup →
  (∀ i, i ∈ l ↔ i ∈ hf.map (·.1)) → (∀ u i v, l = u ++ i :: v → ∀ e ∈ (ma[i]?).getD [], e ∈ hf.map (·.1) → e ∈ u) → K (n2 s hf) → jC C ros s l K := by
 intro l
 induction l with
 | nil =>
   intro hf s _ _ _ _ hm _ aE
   cases hf with
   | nil => exact aE
   | cons e hf => have := (hm e.1).2 (by simp); cases this
 | cons i l ih =>
   intro hf s ay ax bd vV hm cm aE
   obtain ⟨e, he, ar⟩ := List.mem_map.1 ((hm i).1 (by simp))
   obtain ⟨pre, post, rfl⟩ := List.append_of_mem he
   have QR : ∀ a ∈ pre, rT a.2.1 e.2.1 = true := by
    intro a cw
    have a7 := (List.pairwise_append.1 ax).2.2 a cw e (by simp)
    rcases a7 with a7 | a7
    ·rw [ar] at a7
     have := cm [] i l rfl a.1 a7 (by simp only [List.map_append, List.mem_append, List.mem_map]; exact .inl ⟨a, cw, rfl⟩)
     cases this
    ·exact a7
   obtain ⟨bc, bG⟩ := QL pre s ay QR
   obtain ⟨⟨o, QS, zE⟩, cB⟩ := bc
   have Iu : i ∉ (pre ++ post).map (·.1) := by
    have : (pre.map (·.1) ++ e.1 :: post.map (·.1)).Nodup := by simpa using vV
    have bB := (List.perm_middle.nodup_iff.1 this)
    rw [List.nodup_cons] at bB
    rw [← ar]; simpa using bB.1
   simp only [jC]
   rw [← ar, QS]
   refine zE.1 s (fun _ _ => rfl) _ ?_
   rw [List.nodup_cons] at bd
   refine ih (pre ++ post) _ cB ?_ bd.2 ?_ ?_ ?_ ?_
   ·exact ax.sublist ((List.Sublist.refl pre).append (List.sublist_cons_self e post))
   ·have : (pre.map (·.1) ++ e.1 :: post.map (·.1)).Nodup := by simpa using vV
    have bB := (List.perm_middle.nodup_iff.1 this)
    rw [List.nodup_cons] at bB
    simpa using bB.2
   ·intro j
    constructor
    ·intro cx
     have ai := (hm j).1 (by simp [cx])
     simp only [List.map_append, List.map_cons, List.mem_append, List.mem_cons] at ai ⊢
     rcases ai with ai | rfl | ai
     ·exact .inl ai
     ·exact (bd.1 (ar ▸ cx)).elim
     ·exact .inr ai
    ·intro cx
     have ai := (hm j).2 (by
      simp only [List.map_append, List.map_cons, List.mem_append, List.mem_cons] at cx ⊢
      exact cx.imp id .inr)
     rcases List.mem_cons.1 ai with rfl | ai
     ·exact (Iu cx).elim
     ·exact ai
   ·intro u j v hu x aA Ek
    have ai := cm (i :: u) j v (by rw [hu]; rfl) x aA (by
     simp only [List.map_append, List.map_cons, List.mem_append, List.mem_cons] at Ek ⊢
     exact Ek.imp id .inr)
    rcases List.mem_cons.1 ai with rfl | ai
    ·exact (Iu Ek).elim
    ·exact ai
   ·have : n2 s (e :: (pre ++ post)) = n2 (dw e.2.2 s) (pre ++ post) := rfl
    rw [← this, bG]; exact aE
theorem QT {ros : List cI} {g9 : List (List Nat)} {s : au} {K : au → Prop} (hlen : g9.length = ros.length)
  (h : cy C s ros (some []) (fun acc s => l_ (tS g9) 0 [] (acc.getD []).reverse = true ∧ K s)) : ∀ l, DY g9 l → jC C ros s l K := by
 intro l ⟨hR, l2, v_⟩
 obtain ⟨hf, bc, bG, cB, eC⟩ := QP ros [] s [] h
 simp only [List.nil_append, List.append_nil, List.length_nil, Option.getD_some, List.reverse_reverse] at bc bG cB
 have hl : hf.length = ros.length := by have := congrArg List.length bG; simpa using this
 have rU : hf.map (·.1) = (List.range hf.length).map (· + 0) := by rw [bG, hl]
 have a7 : hf.map (·.1) = List.range ros.length := by rw [bG]; simp
 obtain ⟨gL, _⟩ := QO hf 0 [] rU cB
 refine QQ l hf s bc gL hR (by rw [a7]; exact List.nodup_range) (fun i => ?_) (fun u i v hu e he _ => QN v_ u i v hu e he) eC
 rw [a7, l2, hlen, List.mem_range]
end
def dQ (C : cn) (dst : Option Nat) (os : List cI) (K : Option (List fD) → au → Prop) : Option (I × au) → Prop
 | some (av, s1) => cy C (fin s1 dst av) os none K
 | none => False
def dT (C : cn) (l : List (Nat × I)) (bN cT : List Nat) (dst : Option Nat) (os : List cI) (a : List fD) (K : Option (List fD) → au → Prop) : Option (I × au) → Prop
 | some (av, s1) => cy C (fin s1 dst av) os (some (iS (aa l) bN dst cT av :: a)) K
 | none => False
def cD (C : cn) (l : List (Nat × I)) (dst : Option Nat) (bM : fZ) (t : Nat) (b : Bool) (os : List cI) (acc : Option (List fD)) (K : Option (List fD) → au → Prop) : I → Prop
 | .bool fU => if fU = b then nk C (aa l) bM (fun cT av s1 => cy C (fin s1 dst av) os (oZ acc (iS (aa l) (t :: use (aa l) bM) dst cT av)) K) else cy C (fin (aa l) dst (.tuple [])) os (oZ acc (iS (aa l) [t] dst [] (.tuple []))) K
 | .tuple [] => cy C (fin (aa l) dst (.tuple [])) os (oZ acc (iS (aa l) [t] dst [] (.tuple []))) K
 | _ => False
section
variable {C : cn} {l : List (Nat × I)} {os : List cI} {K : Option (List fD) → au → Prop} {dst : Option Nat} {a : List fD} {acc : Option (List fD)}
theorem zF {s : au} {bM : fZ} {K : List Nat → I → au → Prop} (bd : bM.rQ = false) : nk C s bM K = (match bU C s bM with
  | some (av, s1) => K (dz s bM) av s1
  | none => False) := by
 apply propext
 constructor
 ·intro h
  cases bM <;> first
   | (simp [fZ.rQ] at bd; done)
   | (obtain ⟨av, s1, ai, aj⟩ := h; rw [ai]; exact aj)
 ·intro h
  split at h
  ·rename_i av s1 he
   cases bM <;> first
    | (simp [fZ.rQ] at bd; done)
    | exact ⟨av, s1, he, h⟩
  ·exact h.elim
theorem Iv : cy C (aa l) [] acc K = K acc (aa l) := rfl
theorem jd {bM : fZ} (bd : bM.rQ = false) : cy C (aa l) (⟨dst, bM, none⟩ :: os) none K = dQ C dst os K (bU C (aa l) bM) := by
 simp only [cy, mI, oZ]
 rw [zF bd]
 cases bU C (aa l) bM with
 | none => rfl
 | some p => rfl
theorem jq {bM : fZ} (bd : bM.rQ = false) : cy C (aa l) (⟨dst, bM, none⟩ :: os) (some a) K = dT C l (use (aa l) bM) (dz (aa l) bM) dst os a K (bU C (aa l) bM) := by
 simp only [cy, mI, oZ]
 rw [zF bd]
 cases bU C (aa l) bM with
 | none => rfl
 | some p => rfl
theorem Iw {bM : fZ} {t : Nat} {b : Bool} : cy C (aa l) (⟨dst, bM, some (t, b)⟩ :: os) acc K = cD C l dst bM t b os acc K (aa l t) := by
 simp only [cy, mI]
 generalize aa l t = v
 cases v <;> first | rfl | (rename_i vs; cases vs <;> rfl)
theorem fQ {bM : fZ} {t : Nat} {b : Bool} (bd : bM.rQ = false) : cD C l dst bM t b os none K (.bool b) = dQ C dst os K (bU C (aa l) bM) := by
 simp only [cD, if_true]
 rw [zF bd]
 cases bU C (aa l) bM with
 | none => rfl
 | some p => rfl
theorem fR {bM : fZ} {t : Nat} {b : Bool} (bd : bM.rQ = false) : cD C l dst bM t b os (some a) K (.bool b) = dT C l (t :: use (aa l) bM) (dz (aa l) bM) dst os a K (bU C (aa l) bM) := by
 simp only [cD, if_true]
 rw [zF bd]
 cases bU C (aa l) bM with
 | none => rfl
 | some p => rfl
theorem QU {bM : fZ} {t : Nat} : cD C l dst bM t true os none K (.bool false) = cy C (fin (aa l) dst (.tuple [])) os none K ∧ cD C l dst bM t false os none K (.bool true) = cy C (fin (aa l) dst (.tuple [])) os none K ∧
  (∀ b, cD C l dst bM t b os none K (.tuple []) = cy C (fin (aa l) dst (.tuple [])) os none K) := ⟨rfl, rfl, fun _ => rfl⟩
theorem QV {bM : fZ} {t : Nat} : cD C l dst bM t true os (some a) K (.bool false) = cy C (fin (aa l) dst (.tuple [])) os (some (iS (aa l) [t] dst [] (.tuple []) :: a)) K ∧
  cD C l dst bM t false os (some a) K (.bool true) = cy C (fin (aa l) dst (.tuple [])) os (some (iS (aa l) [t] dst [] (.tuple []) :: a)) K ∧
  (∀ b, cD C l dst bM t b os (some a) K (.tuple []) = cy C (fin (aa l) dst (.tuple [])) os (some (iS (aa l) [t] dst [] (.tuple []) :: a)) K) := ⟨rfl, rfl, fun _ => rfl⟩
theorem QW (av : I) (s1 : au) : dQ C dst os K (some (av, s1)) = cy C (fin s1 dst av) os none K := rfl
theorem QX (bN cT : List Nat) (av : I) (s1 : au) : dT C l bN cT dst os a K (some (av, s1)) = cy C (fin s1 dst av) os (some (iS (aa l) bN dst cT av :: a)) K := rfl
def i2 (s : au) : I → Option (I × au)
 | .h y q => cT s (.h y q)
 | d => some (d, s)
def qt (s : au) : I → I → I → Option (I × au)
 | .bool fU, x, y => some (if fU then x else y, s)
 | _, _, _ => none
def c9 (s : au) : Option I → Option (I × au)
 | some d => some (d, s)
 | none => none
def ei : Option au → Option (I × au)
 | some s1 => some (.hole, s1)
 | none => none
def h0 (s : au) : List aG → List I
 | [] => []
 | x :: xs => aR s x :: h0 s xs
def j2 (s : au) : List (Nat × aG) → List (Nat × I)
 | [] => []
 | (k, x) :: xs => (k, aR s x) :: j2 s xs
def k4 (s : au) : Option aG → Option I
 | none => none
 | some x => some (aR s x)
theorem nm (s : au) (x : Option I) : (x.map fun d => (d, s)) = c9 s x := by cases x <;> rfl
theorem QY (x : Option au) : (x.map fun s1 => (I.hole, s1)) = ei x := by cases x <;> rfl
theorem tT (s : au) : ∀ xs : List aG, xs.map (aR s) = h0 s xs
 | [] => rfl
 | x :: xs => by simp only [List.map_cons, h0, tT s xs]
theorem El (s : au) : ∀ xs : List (Nat × aG), (xs.map fun p => (p.1, aR s p.2)) = j2 s xs
 | [] => rfl
 | (k, x) :: xs => by simp only [List.map_cons, j2, El s xs]
theorem QZ (s : au) (x : Option aG) : x.map (aR s) = k4 s x := by cases x <;> rfl
theorem tU (x : aG) : bU C (aa l) (.ad x) = some (aR (aa l) x, aa l) := by
 rfl
theorem tV (x : aG) : bU C (aa l) (.ag x) = i2 (aa l) (aR (aa l) x) := by
 simp only [bU]; cases aR (aa l) x <;> rfl
theorem tW (c x y : aG) : bU C (aa l) (.pick c x y) = qt (aa l) (aR (aa l) c) (aR (aa l) x) (aR (aa l) y) := by
 simp only [bU]; cases aR (aa l) c <;> first | rfl | (rename_i b; cases b <;> rfl)
theorem tX (T : TypeId) : bU C (aa l) (.ey T) = c9 (aa l) (ey C T) := by
 simp only [bU, nm]
theorem tY (T : TypeId) (x : aG) : bU C (aa l) (.c7 T x) = c7 (aa l) (aR (aa l) x) := by
 rfl
theorem tZ (T : TypeId) (ps : List (Nat × aG)) : bU C (aa l) (.fX T ps) = fX C (aa l) T (j2 (aa l) ps) := by
 simp only [bU, El]
theorem t_ (T : TypeId) (n : Nat) (ps : List (Nat × aG)) : bU C (aa l) (.eh T n ps) = eh C (aa l) T n (j2 (aa l) ps) := by
 simp only [bU, El]
theorem ua (T : TypeId) (x : aG) : bU C (aa l) (.aD T x) = c9 (aa l) (aD C (aa l) T (aR (aa l) x)) := by
 simp only [bU, nm]
theorem ub (T : TypeId) (x y : aG) : bU C (aa l) (.cC T x y) = ei (cC C (aa l) T (aR (aa l) x) (aR (aa l) y)) := by
 simp only [bU, QY]
theorem uc (x : aG) : bU C (aa l) (.dP x) = c9 (aa l) (dP (aa l) (aR (aa l) x)) := by
 simp only [bU, nm]
theorem ud (op : BinOp) (T : TypeId) (x y : aG) : bU C (aa l) (.aq op T x y) = c9 (aa l) (aq C (aa l) op T (aR (aa l) x) (aR (aa l) y)) := by
 simp only [bU, nm]
theorem ue (op : UnOp) (x : aG) : bU C (aa l) (.un op x) = c9 (aa l) (un op (aR (aa l) x)) := by
 simp only [bU, nm]
theorem uf (A B : TypeId) (x : aG) : bU C (aa l) (.fW A B x) = c9 (aa l) (fW C (aa l) A B (aR (aa l) x)) := by
 simp only [bU, nm]
theorem ug (f : FuncId) (cs : List aG) : bU C (aa l) (.ia f cs) = some (.fn f (h0 (aa l) cs), aa l) := by
 simp only [bU, tT]
theorem uh (T : TypeId) (x y : aG) : bU C (aa l) (.eU T x y) = c9 (aa l) (eU C T (aR (aa l) x) (aR (aa l) y)) := by
 simp only [bU, nm]
theorem ui (T : TypeId) (x : aG) (de ar : Option aG) : bU C (aa l) (.fA T x de ar) = fA C (aa l) T (aR (aa l) x) (k4 (aa l) de) (k4 (aa l) ar) := by
 simp only [bU, QZ]
theorem uj (T : TypeId) (x : aG) (k : Nat) : bU C (aa l) (.aU T x k) = c9 (aa l) (aU C (aa l) T (aR (aa l) x) k) := by
 simp only [bU, nm]
theorem uk (T : TypeId) (x y : aG) : bU C (aa l) (.bK T x y) = c9 (aa l) (bK C (aa l) T (aR (aa l) x) (aR (aa l) y)) := by
 simp only [bU, nm]
theorem um (T : TypeId) (x y : aG) : bU C (aa l) (.idx T x y) = c9 (aa l) (idx C T (aR (aa l) x) (aR (aa l) y)) := by
 simp only [bU, nm]
theorem uo (x : aG) (k : Nat) : bU C (aa l) (.ex x k) = c9 (aa l) (ex (aa l) (aR (aa l) x) k) := by
 simp only [bU, nm]
theorem uq (T : TypeId) (x : aG) : bU C (aa l) (.len T x) = c9 (aa l) (lB C (aa l) T (aR (aa l) x)) := by
 simp only [bU, nm]
theorem ur (T bN : TypeId) (x y : aG) : bU C (aa l) (.app T bN x y) = lD C (aa l) T bN (aR (aa l) x) (aR (aa l) y) := by
 rfl
theorem Q0 :
  (∀ (x : aG) , cy C (aa l) (⟨dst, .ad x, none⟩ :: os) none K = dQ C dst os K (some (aR (aa l) x, aa l))) ∧
  (∀ (x : aG) , cy C (aa l) (⟨dst, .ag x, none⟩ :: os) none K = dQ C dst os K (i2 (aa l) (aR (aa l) x))) ∧
  (∀ (c x y : aG) , cy C (aa l) (⟨dst, .pick c x y, none⟩ :: os) none K = dQ C dst os K (qt (aa l) (aR (aa l) c) (aR (aa l) x) (aR (aa l) y))) ∧
  (∀ (T : TypeId) , cy C (aa l) (⟨dst, .ey T, none⟩ :: os) none K = dQ C dst os K (c9 (aa l) (ey C T))) ∧
  (∀ (T : TypeId) (x : aG) , cy C (aa l) (⟨dst, .c7 T x, none⟩ :: os) none K = dQ C dst os K (c7 (aa l) (aR (aa l) x))) ∧
  (∀ (T : TypeId) (ps : List (Nat × aG)) , cy C (aa l) (⟨dst, .fX T ps, none⟩ :: os) none K = dQ C dst os K (fX C (aa l) T (j2 (aa l) ps))) ∧
  (∀ (T : TypeId) (n : Nat) (ps : List (Nat × aG)) , cy C (aa l) (⟨dst, .eh T n ps, none⟩ :: os) none K = dQ C dst os K (eh C (aa l) T n (j2 (aa l) ps))) ∧
  (∀ (T : TypeId) (x : aG) , cy C (aa l) (⟨dst, .aD T x, none⟩ :: os) none K = dQ C dst os K (c9 (aa l) (aD C (aa l) T (aR (aa l) x)))) ∧
  (∀ (T : TypeId) (x y : aG) , cy C (aa l) (⟨dst, .cC T x y, none⟩ :: os) none K = dQ C dst os K (ei (cC C (aa l) T (aR (aa l) x) (aR (aa l) y)))) ∧
  (∀ (x : aG) , cy C (aa l) (⟨dst, .dP x, none⟩ :: os) none K = dQ C dst os K (c9 (aa l) (dP (aa l) (aR (aa l) x)))) ∧
  (∀ (op : BinOp) (T : TypeId) (x y : aG) , cy C (aa l) (⟨dst, .aq op T x y, none⟩ :: os) none K = dQ C dst os K (c9 (aa l) (aq C (aa l) op T (aR (aa l) x) (aR (aa l) y)))) ∧
  (∀ (op : UnOp) (x : aG) , cy C (aa l) (⟨dst, .un op x, none⟩ :: os) none K = dQ C dst os K (c9 (aa l) (un op (aR (aa l) x)))) ∧
  (∀ (A B : TypeId) (x : aG) , cy C (aa l) (⟨dst, .fW A B x, none⟩ :: os) none K = dQ C dst os K (c9 (aa l) (fW C (aa l) A B (aR (aa l) x)))) ∧
  (∀ (f : FuncId) (cs : List aG) , cy C (aa l) (⟨dst, .ia f cs, none⟩ :: os) none K = dQ C dst os K (some (.fn f (h0 (aa l) cs), aa l))) ∧
  (∀ (T : TypeId) (x y : aG) , cy C (aa l) (⟨dst, .eU T x y, none⟩ :: os) none K = dQ C dst os K (c9 (aa l) (eU C T (aR (aa l) x) (aR (aa l) y)))) ∧
  (∀ (T : TypeId) (x : aG) (de ar : Option aG) , cy C (aa l) (⟨dst, .fA T x de ar, none⟩ :: os) none K = dQ C dst os K (fA C (aa l) T (aR (aa l) x) (k4 (aa l) de) (k4 (aa l) ar))) ∧
  (∀ (T : TypeId) (x : aG) (k : Nat) , cy C (aa l) (⟨dst, .aU T x k, none⟩ :: os) none K = dQ C dst os K (c9 (aa l) (aU C (aa l) T (aR (aa l) x) k))) ∧
  (∀ (T : TypeId) (x y : aG) , cy C (aa l) (⟨dst, .bK T x y, none⟩ :: os) none K = dQ C dst os K (c9 (aa l) (bK C (aa l) T (aR (aa l) x) (aR (aa l) y)))) ∧
  (∀ (T : TypeId) (x y : aG) , cy C (aa l) (⟨dst, .idx T x y, none⟩ :: os) none K = dQ C dst os K (c9 (aa l) (idx C T (aR (aa l) x) (aR (aa l) y)))) ∧
  (∀ (x : aG) (k : Nat) , cy C (aa l) (⟨dst, .ex x k, none⟩ :: os) none K = dQ C dst os K (c9 (aa l) (ex (aa l) (aR (aa l) x) k))) ∧
  (∀ (T : TypeId) (x : aG) , cy C (aa l) (⟨dst, .len T x, none⟩ :: os) none K = dQ C dst os K (c9 (aa l) (lB C (aa l) T (aR (aa l) x)))) ∧
  (∀ (T bN : TypeId) (x y : aG) , cy C (aa l) (⟨dst, .app T bN x y, none⟩ :: os) none K = dQ C dst os K (lD C (aa l) T bN (aR (aa l) x) (aR (aa l) y))) :=
 ⟨fun x => (jd rfl).trans (congrArg _ (tU x)), fun x => (jd rfl).trans (congrArg _ (tV x)), fun c x y => (jd rfl).trans (congrArg _ (tW c x y)), fun T => (jd rfl).trans (congrArg _ (tX T)), fun T x => (jd rfl).trans (congrArg _ (tY T x)), fun T ps => (jd rfl).trans (congrArg _ (tZ T ps)), fun T n ps => (jd rfl).trans (congrArg _ (t_ T n ps)), fun T x => (jd rfl).trans (congrArg _ (ua T x)), fun T x y => (jd rfl).trans (congrArg _ (ub T x y)), fun x => (jd rfl).trans (congrArg _ (uc x)), fun op T x y => (jd rfl).trans (congrArg _ (ud op T x y)), fun op x => (jd rfl).trans (congrArg _ (ue op x)), fun A B x => (jd rfl).trans (congrArg _ (uf A B x)), fun f cs => (jd rfl).trans (congrArg _ (ug f cs)), fun T x y => (jd rfl).trans (congrArg _ (uh T x y)), fun T x de ar => (jd rfl).trans (congrArg _ (ui T x de ar)), fun T x k => (jd rfl).trans (congrArg _ (uj T x k)), fun T x y => (jd rfl).trans (congrArg _ (uk T x y)), fun T x y => (jd rfl).trans (congrArg _ (um T x y)), fun x k => (jd rfl).trans (congrArg _ (uo x k)), fun T x => (jd rfl).trans (congrArg _ (uq T x)), fun T bN x y => (jd rfl).trans (congrArg _ (ur T bN x y))⟩
theorem Q1 :
  (∀ (x : aG) , cy C (aa l) (⟨dst, .ad x, none⟩ :: os) (some a) K = dT C l (use (aa l) (.ad x)) (dz (aa l) (.ad x)) dst os a K (some (aR (aa l) x, aa l))) ∧
  (∀ (x : aG) , cy C (aa l) (⟨dst, .ag x, none⟩ :: os) (some a) K = dT C l (use (aa l) (.ag x)) (dz (aa l) (.ag x)) dst os a K (i2 (aa l) (aR (aa l) x))) ∧
  (∀ (c x y : aG) , cy C (aa l) (⟨dst, .pick c x y, none⟩ :: os) (some a) K = dT C l (use (aa l) (.pick c x y)) (dz (aa l) (.pick c x y)) dst os a K (qt (aa l) (aR (aa l) c) (aR (aa l) x) (aR (aa l) y))) ∧
  (∀ (T : TypeId) , cy C (aa l) (⟨dst, .ey T, none⟩ :: os) (some a) K = dT C l (use (aa l) (.ey T)) (dz (aa l) (.ey T)) dst os a K (c9 (aa l) (ey C T))) ∧
  (∀ (T : TypeId) (x : aG) , cy C (aa l) (⟨dst, .c7 T x, none⟩ :: os) (some a) K = dT C l (use (aa l) (.c7 T x)) (dz (aa l) (.c7 T x)) dst os a K (c7 (aa l) (aR (aa l) x))) ∧
  (∀ (T : TypeId) (ps : List (Nat × aG)) , cy C (aa l) (⟨dst, .fX T ps, none⟩ :: os) (some a) K = dT C l (use (aa l) (.fX T ps)) (dz (aa l) (.fX T ps)) dst os a K (fX C (aa l) T (j2 (aa l) ps))) ∧
  (∀ (T : TypeId) (n : Nat) (ps : List (Nat × aG)) , cy C (aa l) (⟨dst, .eh T n ps, none⟩ :: os) (some a) K = dT C l (use (aa l) (.eh T n ps)) (dz (aa l) (.eh T n ps)) dst os a K (eh C (aa l) T n (j2 (aa l) ps))) ∧
  (∀ (T : TypeId) (x : aG) , cy C (aa l) (⟨dst, .aD T x, none⟩ :: os) (some a) K = dT C l (use (aa l) (.aD T x)) (dz (aa l) (.aD T x)) dst os a K (c9 (aa l) (aD C (aa l) T (aR (aa l) x)))) ∧
  (∀ (T : TypeId) (x y : aG) , cy C (aa l) (⟨dst, .cC T x y, none⟩ :: os) (some a) K = dT C l (use (aa l) (.cC T x y)) (dz (aa l) (.cC T x y)) dst os a K (ei (cC C (aa l) T (aR (aa l) x) (aR (aa l) y)))) ∧
  (∀ (x : aG) , cy C (aa l) (⟨dst, .dP x, none⟩ :: os) (some a) K = dT C l (use (aa l) (.dP x)) (dz (aa l) (.dP x)) dst os a K (c9 (aa l) (dP (aa l) (aR (aa l) x)))) ∧
  (∀ (op : BinOp) (T : TypeId) (x y : aG) , cy C (aa l) (⟨dst, .aq op T x y, none⟩ :: os) (some a) K = dT C l (use (aa l) (.aq op T x y)) (dz (aa l) (.aq op T x y)) dst os a K (c9 (aa l) (aq C (aa l) op T (aR (aa l) x) (aR (aa l) y)))) ∧
  (∀ (op : UnOp) (x : aG) , cy C (aa l) (⟨dst, .un op x, none⟩ :: os) (some a) K = dT C l (use (aa l) (.un op x)) (dz (aa l) (.un op x)) dst os a K (c9 (aa l) (un op (aR (aa l) x)))) ∧
  (∀ (A B : TypeId) (x : aG) , cy C (aa l) (⟨dst, .fW A B x, none⟩ :: os) (some a) K = dT C l (use (aa l) (.fW A B x)) (dz (aa l) (.fW A B x)) dst os a K (c9 (aa l) (fW C (aa l) A B (aR (aa l) x)))) ∧
  (∀ (f : FuncId) (cs : List aG) , cy C (aa l) (⟨dst, .ia f cs, none⟩ :: os) (some a) K = dT C l (use (aa l) (.ia f cs)) (dz (aa l) (.ia f cs)) dst os a K (some (.fn f (h0 (aa l) cs), aa l))) ∧
  (∀ (T : TypeId) (x y : aG) , cy C (aa l) (⟨dst, .eU T x y, none⟩ :: os) (some a) K = dT C l (use (aa l) (.eU T x y)) (dz (aa l) (.eU T x y)) dst os a K (c9 (aa l) (eU C T (aR (aa l) x) (aR (aa l) y)))) ∧
  (∀ (T : TypeId) (x : aG) (de ar : Option aG) , cy C (aa l) (⟨dst, .fA T x de ar, none⟩ :: os) (some a) K = dT C l (use (aa l) (.fA T x de ar)) (dz (aa l) (.fA T x de ar)) dst os a K (fA C (aa l) T (aR (aa l) x) (k4 (aa l) de) (k4 (aa l) ar))) ∧
  (∀ (T : TypeId) (x : aG) (k : Nat) , cy C (aa l) (⟨dst, .aU T x k, none⟩ :: os) (some a) K = dT C l (use (aa l) (.aU T x k)) (dz (aa l) (.aU T x k)) dst os a K (c9 (aa l) (aU C (aa l) T (aR (aa l) x) k))) ∧
  (∀ (T : TypeId) (x y : aG) , cy C (aa l) (⟨dst, .bK T x y, none⟩ :: os) (some a) K = dT C l (use (aa l) (.bK T x y)) (dz (aa l) (.bK T x y)) dst os a K (c9 (aa l) (bK C (aa l) T (aR (aa l) x) (aR (aa l) y)))) ∧
  (∀ (T : TypeId) (x y : aG) , cy C (aa l) (⟨dst, .idx T x y, none⟩ :: os) (some a) K = dT C l (use (aa l) (.idx T x y)) (dz (aa l) (.idx T x y)) dst os a K (c9 (aa l) (idx C T (aR (aa l) x) (aR (aa l) y)))) ∧
  (∀ (x : aG) (k : Nat) , cy C (aa l) (⟨dst, .ex x k, none⟩ :: os) (some a) K = dT C l (use (aa l) (.ex x k)) (dz (aa l) (.ex x k)) dst os a K (c9 (aa l) (ex (aa l) (aR (aa l) x) k))) ∧
  (∀ (T : TypeId) (x : aG) , cy C (aa l) (⟨dst, .len T x, none⟩ :: os) (some a) K = dT C l (use (aa l) (.len T x)) (dz (aa l) (.len T x)) dst os a K (c9 (aa l) (lB C (aa l) T (aR (aa l) x)))) ∧
  (∀ (T bN : TypeId) (x y : aG) , cy C (aa l) (⟨dst, .app T bN x y, none⟩ :: os) (some a) K = dT C l (use (aa l) (.app T bN x y)) (dz (aa l) (.app T bN x y)) dst os a K (lD C (aa l) T bN (aR (aa l) x) (aR (aa l) y))) :=
 ⟨fun x => (jq rfl).trans (congrArg _ (tU x)), fun x => (jq rfl).trans (congrArg _ (tV x)), fun c x y => (jq rfl).trans (congrArg _ (tW c x y)), fun T => (jq rfl).trans (congrArg _ (tX T)), fun T x => (jq rfl).trans (congrArg _ (tY T x)), fun T ps => (jq rfl).trans (congrArg _ (tZ T ps)), fun T n ps => (jq rfl).trans (congrArg _ (t_ T n ps)), fun T x => (jq rfl).trans (congrArg _ (ua T x)), fun T x y => (jq rfl).trans (congrArg _ (ub T x y)), fun x => (jq rfl).trans (congrArg _ (uc x)), fun op T x y => (jq rfl).trans (congrArg _ (ud op T x y)), fun op x => (jq rfl).trans (congrArg _ (ue op x)), fun A B x => (jq rfl).trans (congrArg _ (uf A B x)), fun f cs => (jq rfl).trans (congrArg _ (ug f cs)), fun T x y => (jq rfl).trans (congrArg _ (uh T x y)), fun T x de ar => (jq rfl).trans (congrArg _ (ui T x de ar)), fun T x k => (jq rfl).trans (congrArg _ (uj T x k)), fun T x y => (jq rfl).trans (congrArg _ (uk T x y)), fun T x y => (jq rfl).trans (congrArg _ (um T x y)), fun x k => (jq rfl).trans (congrArg _ (uo x k)), fun T x => (jq rfl).trans (congrArg _ (uq T x)), fun T bN x y => (jq rfl).trans (congrArg _ (ur T bN x y))⟩
theorem Q2 :
  (∀ (x : aG) (t : Nat), cD C l dst (.ad x) t true os none K (.bool true) = dQ C dst os K (some (aR (aa l) x, aa l))) ∧
  (∀ (x : aG) (t : Nat), cD C l dst (.ad x) t false os none K (.bool false) = dQ C dst os K (some (aR (aa l) x, aa l))) ∧
  (∀ (x : aG) (t : Nat), cD C l dst (.ag x) t true os none K (.bool true) = dQ C dst os K (i2 (aa l) (aR (aa l) x))) ∧
  (∀ (x : aG) (t : Nat), cD C l dst (.ag x) t false os none K (.bool false) = dQ C dst os K (i2 (aa l) (aR (aa l) x))) ∧
  (∀ (c x y : aG) (t : Nat), cD C l dst (.pick c x y) t true os none K (.bool true) = dQ C dst os K (qt (aa l) (aR (aa l) c) (aR (aa l) x) (aR (aa l) y))) ∧
  (∀ (c x y : aG) (t : Nat), cD C l dst (.pick c x y) t false os none K (.bool false) = dQ C dst os K (qt (aa l) (aR (aa l) c) (aR (aa l) x) (aR (aa l) y))) ∧
  (∀ (T : TypeId) (t : Nat), cD C l dst (.ey T) t true os none K (.bool true) = dQ C dst os K (c9 (aa l) (ey C T))) ∧
  (∀ (T : TypeId) (t : Nat), cD C l dst (.ey T) t false os none K (.bool false) = dQ C dst os K (c9 (aa l) (ey C T))) ∧
  (∀ (T : TypeId) (x : aG) (t : Nat), cD C l dst (.c7 T x) t true os none K (.bool true) = dQ C dst os K (c7 (aa l) (aR (aa l) x))) ∧
  (∀ (T : TypeId) (x : aG) (t : Nat), cD C l dst (.c7 T x) t false os none K (.bool false) = dQ C dst os K (c7 (aa l) (aR (aa l) x))) ∧
  (∀ (T : TypeId) (ps : List (Nat × aG)) (t : Nat), cD C l dst (.fX T ps) t true os none K (.bool true) = dQ C dst os K (fX C (aa l) T (j2 (aa l) ps))) ∧
  (∀ (T : TypeId) (ps : List (Nat × aG)) (t : Nat), cD C l dst (.fX T ps) t false os none K (.bool false) = dQ C dst os K (fX C (aa l) T (j2 (aa l) ps))) ∧
  (∀ (T : TypeId) (n : Nat) (ps : List (Nat × aG)) (t : Nat), cD C l dst (.eh T n ps) t true os none K (.bool true) = dQ C dst os K (eh C (aa l) T n (j2 (aa l) ps))) ∧
  (∀ (T : TypeId) (n : Nat) (ps : List (Nat × aG)) (t : Nat), cD C l dst (.eh T n ps) t false os none K (.bool false) = dQ C dst os K (eh C (aa l) T n (j2 (aa l) ps))) ∧
  (∀ (T : TypeId) (x : aG) (t : Nat), cD C l dst (.aD T x) t true os none K (.bool true) = dQ C dst os K (c9 (aa l) (aD C (aa l) T (aR (aa l) x)))) ∧
  (∀ (T : TypeId) (x : aG) (t : Nat), cD C l dst (.aD T x) t false os none K (.bool false) = dQ C dst os K (c9 (aa l) (aD C (aa l) T (aR (aa l) x)))) ∧
  (∀ (T : TypeId) (x y : aG) (t : Nat), cD C l dst (.cC T x y) t true os none K (.bool true) = dQ C dst os K (ei (cC C (aa l) T (aR (aa l) x) (aR (aa l) y)))) ∧
  (∀ (T : TypeId) (x y : aG) (t : Nat), cD C l dst (.cC T x y) t false os none K (.bool false) = dQ C dst os K (ei (cC C (aa l) T (aR (aa l) x) (aR (aa l) y)))) ∧
  (∀ (x : aG) (t : Nat), cD C l dst (.dP x) t true os none K (.bool true) = dQ C dst os K (c9 (aa l) (dP (aa l) (aR (aa l) x)))) ∧
  (∀ (x : aG) (t : Nat), cD C l dst (.dP x) t false os none K (.bool false) = dQ C dst os K (c9 (aa l) (dP (aa l) (aR (aa l) x)))) ∧
  (∀ (op : BinOp) (T : TypeId) (x y : aG) (t : Nat), cD C l dst (.aq op T x y) t true os none K (.bool true) = dQ C dst os K (c9 (aa l) (aq C (aa l) op T (aR (aa l) x) (aR (aa l) y)))) ∧
  (∀ (op : BinOp) (T : TypeId) (x y : aG) (t : Nat), cD C l dst (.aq op T x y) t false os none K (.bool false) = dQ C dst os K (c9 (aa l) (aq C (aa l) op T (aR (aa l) x) (aR (aa l) y)))) ∧
  (∀ (op : UnOp) (x : aG) (t : Nat), cD C l dst (.un op x) t true os none K (.bool true) = dQ C dst os K (c9 (aa l) (un op (aR (aa l) x)))) ∧
  (∀ (op : UnOp) (x : aG) (t : Nat), cD C l dst (.un op x) t false os none K (.bool false) = dQ C dst os K (c9 (aa l) (un op (aR (aa l) x)))) ∧
  (∀ (A B : TypeId) (x : aG) (t : Nat), cD C l dst (.fW A B x) t true os none K (.bool true) = dQ C dst os K (c9 (aa l) (fW C (aa l) A B (aR (aa l) x)))) ∧
  (∀ (A B : TypeId) (x : aG) (t : Nat), cD C l dst (.fW A B x) t false os none K (.bool false) = dQ C dst os K (c9 (aa l) (fW C (aa l) A B (aR (aa l) x)))) ∧
  (∀ (f : FuncId) (cs : List aG) (t : Nat), cD C l dst (.ia f cs) t true os none K (.bool true) = dQ C dst os K (some (.fn f (h0 (aa l) cs), aa l))) ∧
  (∀ (f : FuncId) (cs : List aG) (t : Nat), cD C l dst (.ia f cs) t false os none K (.bool false) = dQ C dst os K (some (.fn f (h0 (aa l) cs), aa l))) ∧
  (∀ (T : TypeId) (x y : aG) (t : Nat), cD C l dst (.eU T x y) t true os none K (.bool true) = dQ C dst os K (c9 (aa l) (eU C T (aR (aa l) x) (aR (aa l) y)))) ∧
  (∀ (T : TypeId) (x y : aG) (t : Nat), cD C l dst (.eU T x y) t false os none K (.bool false) = dQ C dst os K (c9 (aa l) (eU C T (aR (aa l) x) (aR (aa l) y)))) ∧
  (∀ (T : TypeId) (x : aG) (de ar : Option aG) (t : Nat), cD C l dst (.fA T x de ar) t true os none K (.bool true) = dQ C dst os K (fA C (aa l) T (aR (aa l) x) (k4 (aa l) de) (k4 (aa l) ar))) ∧
  (∀ (T : TypeId) (x : aG) (de ar : Option aG) (t : Nat), cD C l dst (.fA T x de ar) t false os none K (.bool false) = dQ C dst os K (fA C (aa l) T (aR (aa l) x) (k4 (aa l) de) (k4 (aa l) ar))) ∧
  (∀ (T : TypeId) (x : aG) (k : Nat) (t : Nat), cD C l dst (.aU T x k) t true os none K (.bool true) = dQ C dst os K (c9 (aa l) (aU C (aa l) T (aR (aa l) x) k))) ∧
  (∀ (T : TypeId) (x : aG) (k : Nat) (t : Nat), cD C l dst (.aU T x k) t false os none K (.bool false) = dQ C dst os K (c9 (aa l) (aU C (aa l) T (aR (aa l) x) k))) ∧
  (∀ (T : TypeId) (x y : aG) (t : Nat), cD C l dst (.bK T x y) t true os none K (.bool true) = dQ C dst os K (c9 (aa l) (bK C (aa l) T (aR (aa l) x) (aR (aa l) y)))) ∧
  (∀ (T : TypeId) (x y : aG) (t : Nat), cD C l dst (.bK T x y) t false os none K (.bool false) = dQ C dst os K (c9 (aa l) (bK C (aa l) T (aR (aa l) x) (aR (aa l) y)))) ∧
  (∀ (T : TypeId) (x y : aG) (t : Nat), cD C l dst (.idx T x y) t true os none K (.bool true) = dQ C dst os K (c9 (aa l) (idx C T (aR (aa l) x) (aR (aa l) y)))) ∧
  (∀ (T : TypeId) (x y : aG) (t : Nat), cD C l dst (.idx T x y) t false os none K (.bool false) = dQ C dst os K (c9 (aa l) (idx C T (aR (aa l) x) (aR (aa l) y)))) ∧
  (∀ (x : aG) (k : Nat) (t : Nat), cD C l dst (.ex x k) t true os none K (.bool true) = dQ C dst os K (c9 (aa l) (ex (aa l) (aR (aa l) x) k))) ∧
  (∀ (x : aG) (k : Nat) (t : Nat), cD C l dst (.ex x k) t false os none K (.bool false) = dQ C dst os K (c9 (aa l) (ex (aa l) (aR (aa l) x) k))) ∧
  (∀ (T : TypeId) (x : aG) (t : Nat), cD C l dst (.len T x) t true os none K (.bool true) = dQ C dst os K (c9 (aa l) (lB C (aa l) T (aR (aa l) x)))) ∧
  (∀ (T : TypeId) (x : aG) (t : Nat), cD C l dst (.len T x) t false os none K (.bool false) = dQ C dst os K (c9 (aa l) (lB C (aa l) T (aR (aa l) x)))) ∧
  (∀ (T bN : TypeId) (x y : aG) (t : Nat), cD C l dst (.app T bN x y) t true os none K (.bool true) = dQ C dst os K (lD C (aa l) T bN (aR (aa l) x) (aR (aa l) y))) ∧
  (∀ (T bN : TypeId) (x y : aG) (t : Nat), cD C l dst (.app T bN x y) t false os none K (.bool false) = dQ C dst os K (lD C (aa l) T bN (aR (aa l) x) (aR (aa l) y))) :=
 ⟨fun x _ => (fQ rfl).trans (congrArg _ (tU x)), fun x _ => (fQ rfl).trans (congrArg _ (tU x)), fun x _ => (fQ rfl).trans (congrArg _ (tV x)), fun x _ => (fQ rfl).trans (congrArg _ (tV x)), fun c x y _ => (fQ rfl).trans (congrArg _ (tW c x y)), fun c x y _ => (fQ rfl).trans (congrArg _ (tW c x y)), fun T _ => (fQ rfl).trans (congrArg _ (tX T)), fun T _ => (fQ rfl).trans (congrArg _ (tX T)), fun T x _ => (fQ rfl).trans (congrArg _ (tY T x)), fun T x _ => (fQ rfl).trans (congrArg _ (tY T x)), fun T ps _ => (fQ rfl).trans (congrArg _ (tZ T ps)), fun T ps _ => (fQ rfl).trans (congrArg _ (tZ T ps)), fun T n ps _ => (fQ rfl).trans (congrArg _ (t_ T n ps)), fun T n ps _ => (fQ rfl).trans (congrArg _ (t_ T n ps)), fun T x _ => (fQ rfl).trans (congrArg _ (ua T x)), fun T x _ => (fQ rfl).trans (congrArg _ (ua T x)), fun T x y _ => (fQ rfl).trans (congrArg _ (ub T x y)), fun T x y _ => (fQ rfl).trans (congrArg _ (ub T x y)), fun x _ => (fQ rfl).trans (congrArg _ (uc x)), fun x _ => (fQ rfl).trans (congrArg _ (uc x)), fun op T x y _ => (fQ rfl).trans (congrArg _ (ud op T x y)), fun op T x y _ => (fQ rfl).trans (congrArg _ (ud op T x y)), fun op x _ => (fQ rfl).trans (congrArg _ (ue op x)), fun op x _ => (fQ rfl).trans (congrArg _ (ue op x)), fun A B x _ => (fQ rfl).trans (congrArg _ (uf A B x)), fun A B x _ => (fQ rfl).trans (congrArg _ (uf A B x)), fun f cs _ => (fQ rfl).trans (congrArg _ (ug f cs)), fun f cs _ => (fQ rfl).trans (congrArg _ (ug f cs)), fun T x y _ => (fQ rfl).trans (congrArg _ (uh T x y)), fun T x y _ => (fQ rfl).trans (congrArg _ (uh T x y)), fun T x de ar _ => (fQ rfl).trans (congrArg _ (ui T x de ar)), fun T x de ar _ => (fQ rfl).trans (congrArg _ (ui T x de ar)), fun T x k _ => (fQ rfl).trans (congrArg _ (uj T x k)), fun T x k _ => (fQ rfl).trans (congrArg _ (uj T x k)), fun T x y _ => (fQ rfl).trans (congrArg _ (uk T x y)), fun T x y _ => (fQ rfl).trans (congrArg _ (uk T x y)), fun T x y _ => (fQ rfl).trans (congrArg _ (um T x y)), fun T x y _ => (fQ rfl).trans (congrArg _ (um T x y)), fun x k _ => (fQ rfl).trans (congrArg _ (uo x k)), fun x k _ => (fQ rfl).trans (congrArg _ (uo x k)), fun T x _ => (fQ rfl).trans (congrArg _ (uq T x)), fun T x _ => (fQ rfl).trans (congrArg _ (uq T x)), fun T bN x y _ => (fQ rfl).trans (congrArg _ (ur T bN x y)), fun T bN x y _ => (fQ rfl).trans (congrArg _ (ur T bN x y))⟩
theorem Q3 :
  (∀ (x : aG) (t : Nat), cD C l dst (.ad x) t true os (some a) K (.bool true) = dT C l (t :: use (aa l) (.ad x)) (dz (aa l) (.ad x)) dst os a K (some (aR (aa l) x, aa l))) ∧
  (∀ (x : aG) (t : Nat), cD C l dst (.ad x) t false os (some a) K (.bool false) = dT C l (t :: use (aa l) (.ad x)) (dz (aa l) (.ad x)) dst os a K (some (aR (aa l) x, aa l))) ∧
  (∀ (x : aG) (t : Nat), cD C l dst (.ag x) t true os (some a) K (.bool true) = dT C l (t :: use (aa l) (.ag x)) (dz (aa l) (.ag x)) dst os a K (i2 (aa l) (aR (aa l) x))) ∧
  (∀ (x : aG) (t : Nat), cD C l dst (.ag x) t false os (some a) K (.bool false) = dT C l (t :: use (aa l) (.ag x)) (dz (aa l) (.ag x)) dst os a K (i2 (aa l) (aR (aa l) x))) ∧
  (∀ (c x y : aG) (t : Nat), cD C l dst (.pick c x y) t true os (some a) K (.bool true) = dT C l (t :: use (aa l) (.pick c x y)) (dz (aa l) (.pick c x y)) dst os a K (qt (aa l) (aR (aa l) c) (aR (aa l) x) (aR (aa l) y))) ∧
  (∀ (c x y : aG) (t : Nat), cD C l dst (.pick c x y) t false os (some a) K (.bool false) = dT C l (t :: use (aa l) (.pick c x y)) (dz (aa l) (.pick c x y)) dst os a K (qt (aa l) (aR (aa l) c) (aR (aa l) x) (aR (aa l) y))) ∧
  (∀ (T : TypeId) (t : Nat), cD C l dst (.ey T) t true os (some a) K (.bool true) = dT C l (t :: use (aa l) (.ey T)) (dz (aa l) (.ey T)) dst os a K (c9 (aa l) (ey C T))) ∧
  (∀ (T : TypeId) (t : Nat), cD C l dst (.ey T) t false os (some a) K (.bool false) = dT C l (t :: use (aa l) (.ey T)) (dz (aa l) (.ey T)) dst os a K (c9 (aa l) (ey C T))) ∧
  (∀ (T : TypeId) (x : aG) (t : Nat), cD C l dst (.c7 T x) t true os (some a) K (.bool true) = dT C l (t :: use (aa l) (.c7 T x)) (dz (aa l) (.c7 T x)) dst os a K (c7 (aa l) (aR (aa l) x))) ∧
  (∀ (T : TypeId) (x : aG) (t : Nat), cD C l dst (.c7 T x) t false os (some a) K (.bool false) = dT C l (t :: use (aa l) (.c7 T x)) (dz (aa l) (.c7 T x)) dst os a K (c7 (aa l) (aR (aa l) x))) ∧
  (∀ (T : TypeId) (ps : List (Nat × aG)) (t : Nat), cD C l dst (.fX T ps) t true os (some a) K (.bool true) = dT C l (t :: use (aa l) (.fX T ps)) (dz (aa l) (.fX T ps)) dst os a K (fX C (aa l) T (j2 (aa l) ps))) ∧
  (∀ (T : TypeId) (ps : List (Nat × aG)) (t : Nat), cD C l dst (.fX T ps) t false os (some a) K (.bool false) = dT C l (t :: use (aa l) (.fX T ps)) (dz (aa l) (.fX T ps)) dst os a K (fX C (aa l) T (j2 (aa l) ps))) ∧
  (∀ (T : TypeId) (n : Nat) (ps : List (Nat × aG)) (t : Nat), cD C l dst (.eh T n ps) t true os (some a) K (.bool true) = dT C l (t :: use (aa l) (.eh T n ps)) (dz (aa l) (.eh T n ps)) dst os a K (eh C (aa l) T n (j2 (aa l) ps))) ∧
  (∀ (T : TypeId) (n : Nat) (ps : List (Nat × aG)) (t : Nat), cD C l dst (.eh T n ps) t false os (some a) K (.bool false) = dT C l (t :: use (aa l) (.eh T n ps)) (dz (aa l) (.eh T n ps)) dst os a K (eh C (aa l) T n (j2 (aa l) ps))) ∧
  (∀ (T : TypeId) (x : aG) (t : Nat), cD C l dst (.aD T x) t true os (some a) K (.bool true) = dT C l (t :: use (aa l) (.aD T x)) (dz (aa l) (.aD T x)) dst os a K (c9 (aa l) (aD C (aa l) T (aR (aa l) x)))) ∧
  (∀ (T : TypeId) (x : aG) (t : Nat), cD C l dst (.aD T x) t false os (some a) K (.bool false) = dT C l (t :: use (aa l) (.aD T x)) (dz (aa l) (.aD T x)) dst os a K (c9 (aa l) (aD C (aa l) T (aR (aa l) x)))) ∧
  (∀ (T : TypeId) (x y : aG) (t : Nat), cD C l dst (.cC T x y) t true os (some a) K (.bool true) = dT C l (t :: use (aa l) (.cC T x y)) (dz (aa l) (.cC T x y)) dst os a K (ei (cC C (aa l) T (aR (aa l) x) (aR (aa l) y)))) ∧
  (∀ (T : TypeId) (x y : aG) (t : Nat), cD C l dst (.cC T x y) t false os (some a) K (.bool false) = dT C l (t :: use (aa l) (.cC T x y)) (dz (aa l) (.cC T x y)) dst os a K (ei (cC C (aa l) T (aR (aa l) x) (aR (aa l) y)))) ∧
  (∀ (x : aG) (t : Nat), cD C l dst (.dP x) t true os (some a) K (.bool true) = dT C l (t :: use (aa l) (.dP x)) (dz (aa l) (.dP x)) dst os a K (c9 (aa l) (dP (aa l) (aR (aa l) x)))) ∧
  (∀ (x : aG) (t : Nat), cD C l dst (.dP x) t false os (some a) K (.bool false) = dT C l (t :: use (aa l) (.dP x)) (dz (aa l) (.dP x)) dst os a K (c9 (aa l) (dP (aa l) (aR (aa l) x)))) ∧
  (∀ (op : BinOp) (T : TypeId) (x y : aG) (t : Nat), cD C l dst (.aq op T x y) t true os (some a) K (.bool true) = dT C l (t :: use (aa l) (.aq op T x y)) (dz (aa l) (.aq op T x y)) dst os a K (c9 (aa l) (aq C (aa l) op T (aR (aa l) x) (aR (aa l) y)))) ∧
  (∀ (op : BinOp) (T : TypeId) (x y : aG) (t : Nat), cD C l dst (.aq op T x y) t false os (some a) K (.bool false) = dT C l (t :: use (aa l) (.aq op T x y)) (dz (aa l) (.aq op T x y)) dst os a K (c9 (aa l) (aq C (aa l) op T (aR (aa l) x) (aR (aa l) y)))) ∧
  (∀ (op : UnOp) (x : aG) (t : Nat), cD C l dst (.un op x) t true os (some a) K (.bool true) = dT C l (t :: use (aa l) (.un op x)) (dz (aa l) (.un op x)) dst os a K (c9 (aa l) (un op (aR (aa l) x)))) ∧
  (∀ (op : UnOp) (x : aG) (t : Nat), cD C l dst (.un op x) t false os (some a) K (.bool false) = dT C l (t :: use (aa l) (.un op x)) (dz (aa l) (.un op x)) dst os a K (c9 (aa l) (un op (aR (aa l) x)))) ∧
  (∀ (A B : TypeId) (x : aG) (t : Nat), cD C l dst (.fW A B x) t true os (some a) K (.bool true) = dT C l (t :: use (aa l) (.fW A B x)) (dz (aa l) (.fW A B x)) dst os a K (c9 (aa l) (fW C (aa l) A B (aR (aa l) x)))) ∧
  (∀ (A B : TypeId) (x : aG) (t : Nat), cD C l dst (.fW A B x) t false os (some a) K (.bool false) = dT C l (t :: use (aa l) (.fW A B x)) (dz (aa l) (.fW A B x)) dst os a K (c9 (aa l) (fW C (aa l) A B (aR (aa l) x)))) ∧
  (∀ (f : FuncId) (cs : List aG) (t : Nat), cD C l dst (.ia f cs) t true os (some a) K (.bool true) = dT C l (t :: use (aa l) (.ia f cs)) (dz (aa l) (.ia f cs)) dst os a K (some (.fn f (h0 (aa l) cs), aa l))) ∧
  (∀ (f : FuncId) (cs : List aG) (t : Nat), cD C l dst (.ia f cs) t false os (some a) K (.bool false) = dT C l (t :: use (aa l) (.ia f cs)) (dz (aa l) (.ia f cs)) dst os a K (some (.fn f (h0 (aa l) cs), aa l))) ∧
  (∀ (T : TypeId) (x y : aG) (t : Nat), cD C l dst (.eU T x y) t true os (some a) K (.bool true) = dT C l (t :: use (aa l) (.eU T x y)) (dz (aa l) (.eU T x y)) dst os a K (c9 (aa l) (eU C T (aR (aa l) x) (aR (aa l) y)))) ∧
  (∀ (T : TypeId) (x y : aG) (t : Nat), cD C l dst (.eU T x y) t false os (some a) K (.bool false) = dT C l (t :: use (aa l) (.eU T x y)) (dz (aa l) (.eU T x y)) dst os a K (c9 (aa l) (eU C T (aR (aa l) x) (aR (aa l) y)))) ∧
  (∀ (T : TypeId) (x : aG) (de ar : Option aG) (t : Nat), cD C l dst (.fA T x de ar) t true os (some a) K (.bool true) = dT C l (t :: use (aa l) (.fA T x de ar)) (dz (aa l) (.fA T x de ar)) dst os a K (fA C (aa l) T (aR (aa l) x) (k4 (aa l) de) (k4 (aa l) ar))) ∧
  (∀ (T : TypeId) (x : aG) (de ar : Option aG) (t : Nat), cD C l dst (.fA T x de ar) t false os (some a) K (.bool false) = dT C l (t :: use (aa l) (.fA T x de ar)) (dz (aa l) (.fA T x de ar)) dst os a K (fA C (aa l) T (aR (aa l) x) (k4 (aa l) de) (k4 (aa l) ar))) ∧
  (∀ (T : TypeId) (x : aG) (k : Nat) (t : Nat), cD C l dst (.aU T x k) t true os (some a) K (.bool true) = dT C l (t :: use (aa l) (.aU T x k)) (dz (aa l) (.aU T x k)) dst os a K (c9 (aa l) (aU C (aa l) T (aR (aa l) x) k))) ∧
  (∀ (T : TypeId) (x : aG) (k : Nat) (t : Nat), cD C l dst (.aU T x k) t false os (some a) K (.bool false) = dT C l (t :: use (aa l) (.aU T x k)) (dz (aa l) (.aU T x k)) dst os a K (c9 (aa l) (aU C (aa l) T (aR (aa l) x) k))) ∧
  (∀ (T : TypeId) (x y : aG) (t : Nat), cD C l dst (.bK T x y) t true os (some a) K (.bool true) = dT C l (t :: use (aa l) (.bK T x y)) (dz (aa l) (.bK T x y)) dst os a K (c9 (aa l) (bK C (aa l) T (aR (aa l) x) (aR (aa l) y)))) ∧
  (∀ (T : TypeId) (x y : aG) (t : Nat), cD C l dst (.bK T x y) t false os (some a) K (.bool false) = dT C l (t :: use (aa l) (.bK T x y)) (dz (aa l) (.bK T x y)) dst os a K (c9 (aa l) (bK C (aa l) T (aR (aa l) x) (aR (aa l) y)))) ∧
  (∀ (T : TypeId) (x y : aG) (t : Nat), cD C l dst (.idx T x y) t true os (some a) K (.bool true) = dT C l (t :: use (aa l) (.idx T x y)) (dz (aa l) (.idx T x y)) dst os a K (c9 (aa l) (idx C T (aR (aa l) x) (aR (aa l) y)))) ∧
  (∀ (T : TypeId) (x y : aG) (t : Nat), cD C l dst (.idx T x y) t false os (some a) K (.bool false) = dT C l (t :: use (aa l) (.idx T x y)) (dz (aa l) (.idx T x y)) dst os a K (c9 (aa l) (idx C T (aR (aa l) x) (aR (aa l) y)))) ∧
  (∀ (x : aG) (k : Nat) (t : Nat), cD C l dst (.ex x k) t true os (some a) K (.bool true) = dT C l (t :: use (aa l) (.ex x k)) (dz (aa l) (.ex x k)) dst os a K (c9 (aa l) (ex (aa l) (aR (aa l) x) k))) ∧
  (∀ (x : aG) (k : Nat) (t : Nat), cD C l dst (.ex x k) t false os (some a) K (.bool false) = dT C l (t :: use (aa l) (.ex x k)) (dz (aa l) (.ex x k)) dst os a K (c9 (aa l) (ex (aa l) (aR (aa l) x) k))) ∧
  (∀ (T : TypeId) (x : aG) (t : Nat), cD C l dst (.len T x) t true os (some a) K (.bool true) = dT C l (t :: use (aa l) (.len T x)) (dz (aa l) (.len T x)) dst os a K (c9 (aa l) (lB C (aa l) T (aR (aa l) x)))) ∧
  (∀ (T : TypeId) (x : aG) (t : Nat), cD C l dst (.len T x) t false os (some a) K (.bool false) = dT C l (t :: use (aa l) (.len T x)) (dz (aa l) (.len T x)) dst os a K (c9 (aa l) (lB C (aa l) T (aR (aa l) x)))) ∧
  (∀ (T bN : TypeId) (x y : aG) (t : Nat), cD C l dst (.app T bN x y) t true os (some a) K (.bool true) = dT C l (t :: use (aa l) (.app T bN x y)) (dz (aa l) (.app T bN x y)) dst os a K (lD C (aa l) T bN (aR (aa l) x) (aR (aa l) y))) ∧
  (∀ (T bN : TypeId) (x y : aG) (t : Nat), cD C l dst (.app T bN x y) t false os (some a) K (.bool false) = dT C l (t :: use (aa l) (.app T bN x y)) (dz (aa l) (.app T bN x y)) dst os a K (lD C (aa l) T bN (aR (aa l) x) (aR (aa l) y))) :=
 ⟨fun x _ => (fR rfl).trans (congrArg _ (tU x)), fun x _ => (fR rfl).trans (congrArg _ (tU x)), fun x _ => (fR rfl).trans (congrArg _ (tV x)), fun x _ => (fR rfl).trans (congrArg _ (tV x)), fun c x y _ => (fR rfl).trans (congrArg _ (tW c x y)), fun c x y _ => (fR rfl).trans (congrArg _ (tW c x y)), fun T _ => (fR rfl).trans (congrArg _ (tX T)), fun T _ => (fR rfl).trans (congrArg _ (tX T)), fun T x _ => (fR rfl).trans (congrArg _ (tY T x)), fun T x _ => (fR rfl).trans (congrArg _ (tY T x)), fun T ps _ => (fR rfl).trans (congrArg _ (tZ T ps)), fun T ps _ => (fR rfl).trans (congrArg _ (tZ T ps)), fun T n ps _ => (fR rfl).trans (congrArg _ (t_ T n ps)), fun T n ps _ => (fR rfl).trans (congrArg _ (t_ T n ps)), fun T x _ => (fR rfl).trans (congrArg _ (ua T x)), fun T x _ => (fR rfl).trans (congrArg _ (ua T x)), fun T x y _ => (fR rfl).trans (congrArg _ (ub T x y)), fun T x y _ => (fR rfl).trans (congrArg _ (ub T x y)), fun x _ => (fR rfl).trans (congrArg _ (uc x)), fun x _ => (fR rfl).trans (congrArg _ (uc x)), fun op T x y _ => (fR rfl).trans (congrArg _ (ud op T x y)), fun op T x y _ => (fR rfl).trans (congrArg _ (ud op T x y)), fun op x _ => (fR rfl).trans (congrArg _ (ue op x)), fun op x _ => (fR rfl).trans (congrArg _ (ue op x)), fun A B x _ => (fR rfl).trans (congrArg _ (uf A B x)), fun A B x _ => (fR rfl).trans (congrArg _ (uf A B x)), fun f cs _ => (fR rfl).trans (congrArg _ (ug f cs)), fun f cs _ => (fR rfl).trans (congrArg _ (ug f cs)), fun T x y _ => (fR rfl).trans (congrArg _ (uh T x y)), fun T x y _ => (fR rfl).trans (congrArg _ (uh T x y)), fun T x de ar _ => (fR rfl).trans (congrArg _ (ui T x de ar)), fun T x de ar _ => (fR rfl).trans (congrArg _ (ui T x de ar)), fun T x k _ => (fR rfl).trans (congrArg _ (uj T x k)), fun T x k _ => (fR rfl).trans (congrArg _ (uj T x k)), fun T x y _ => (fR rfl).trans (congrArg _ (uk T x y)), fun T x y _ => (fR rfl).trans (congrArg _ (uk T x y)), fun T x y _ => (fR rfl).trans (congrArg _ (um T x y)), fun T x y _ => (fR rfl).trans (congrArg _ (um T x y)), fun x k _ => (fR rfl).trans (congrArg _ (uo x k)), fun x k _ => (fR rfl).trans (congrArg _ (uo x k)), fun T x _ => (fR rfl).trans (congrArg _ (uq T x)), fun T x _ => (fR rfl).trans (congrArg _ (uq T x)), fun T bN x y _ => (fR rfl).trans (congrArg _ (ur T bN x y)), fun T bN x y _ => (fR rfl).trans (congrArg _ (ur T bN x y))⟩
end
theorem Ix :
  (∀ (t : Nat) (k : IntKind) (n : Int), iY t (.int k n) = (.int k n)) ∧
  (∀ (t : Nat) (b : Bool), iY t (.bool b) = (.bool b)) ∧
  (∀ (t : Nat) (x : List UInt8), iY t (.str x) = (.str x)) ∧
  (∀ (t : Nat) (xs : List I), iY t (.slice xs) = (.slice xs)) ∧
  (∀ (t : Nat) (d : I), iY t (.ref d) = (.ref d)) ∧
  (∀ (t : Nat) (f : FuncId) (cap : List I), iY t (.fn f cap) = (.fn f cap)) ∧
  (∀ (t : Nat) (x : Nat) (q : List Nat), iY t (.h x q) = (.h x q)) ∧
  (∀ (t : Nat) (x : Nat) (q : List Nat), iY t (.ax x q) = (.ax x q)) ∧
  (∀ (t : Nat) , iY t .dC = .dC) ∧
  (∀ (t : Nat) , iY t .bg = .bg) ∧
  (∀ (t : Nat) , iY t .fi = .fi) ∧
  (∀ (t : Nat) , iY t .hole = .hole) ∧
  (∀ (t : Nat) (sz : Nat) (xs : List I), iY t (.aw sz xs) = .h t []) ∧
  (∀ (t : Nat) (d : I), iY t (.a8 d) = .h t []) ∧
  (∀ (t : Nat) (aB : List I), iY t (.agg aB) = if I.dI aB = true then (.agg aB) else .h t []) ∧
  (∀ (t : Nat) (aB : List I), iY t (.tuple aB) = if I.dI aB = true then (.tuple aB) else .h t []) :=
 ⟨fun _ _ _ => rfl, fun _ _ => rfl, fun _ _ => rfl, fun _ _ => rfl, fun _ _ => rfl, fun _ _ _ => rfl, fun _ _ _ => rfl, fun _ _ _ => rfl, fun _  => rfl, fun _  => rfl, fun _  => rfl, fun _  => rfl, fun _ _ _ => rfl, fun _ _ => rfl, fun _ _ => rfl, fun _ _ => rfl⟩
theorem Iy :
  (∀ (l : List (Nat × I)) (av : I), fin (aa l) none av = aa l) ∧
  (∀ (l : List (Nat × I)) (t : Nat) (k : IntKind) (n : Int), fin (aa l) (some t) (.int k n) = aa ((t, (.int k n)) :: l)) ∧
  (∀ (l : List (Nat × I)) (t : Nat) (b : Bool), fin (aa l) (some t) (.bool b) = aa ((t, (.bool b)) :: l)) ∧
  (∀ (l : List (Nat × I)) (t : Nat) (x : List UInt8), fin (aa l) (some t) (.str x) = aa ((t, (.str x)) :: l)) ∧
  (∀ (l : List (Nat × I)) (t : Nat) (xs : List I), fin (aa l) (some t) (.slice xs) = aa ((t, (.slice xs)) :: l)) ∧
  (∀ (l : List (Nat × I)) (t : Nat) (d : I), fin (aa l) (some t) (.ref d) = aa ((t, (.ref d)) :: l)) ∧
  (∀ (l : List (Nat × I)) (t : Nat) (f : FuncId) (cap : List I), fin (aa l) (some t) (.fn f cap) = aa ((t, (.fn f cap)) :: l)) ∧
  (∀ (l : List (Nat × I)) (t : Nat) (x : Nat) (q : List Nat), fin (aa l) (some t) (.h x q) = aa ((t, (.h x q)) :: l)) ∧
  (∀ (l : List (Nat × I)) (t : Nat) (x : Nat) (q : List Nat), fin (aa l) (some t) (.ax x q) = aa ((t, (.ax x q)) :: l)) ∧
  (∀ (l : List (Nat × I)) (t : Nat) , fin (aa l) (some t) .dC = aa ((t, .dC) :: l)) ∧
  (∀ (l : List (Nat × I)) (t : Nat) , fin (aa l) (some t) .bg = aa ((t, .bg) :: l)) ∧
  (∀ (l : List (Nat × I)) (t : Nat) , fin (aa l) (some t) .fi = aa ((t, .fi) :: l)) ∧
  (∀ (l : List (Nat × I)) (t : Nat) , fin (aa l) (some t) .hole = aa ((t, .hole) :: l)) ∧
  (∀ (l : List (Nat × I)) (t : Nat) (sz : Nat) (xs : List I), fin (aa l) (some t) (.aw sz xs) = aa ((t, (.aw sz xs)) :: n1 t l)) ∧
  (∀ (l : List (Nat × I)) (t : Nat) (d : I), fin (aa l) (some t) (.a8 d) = aa ((t, (.a8 d)) :: n1 t l)) ∧
  (∀ (l : List (Nat × I)) (t : Nat) (aB : List I), fin (aa l) (some t) (.agg aB) = aa ((t, (.agg aB)) :: if I.dI aB = true then l else n1 t l)) ∧
  (∀ (l : List (Nat × I)) (t : Nat) (aB : List I), fin (aa l) (some t) (.tuple aB) = aa ((t, (.tuple aB)) :: if I.dI aB = true then l else n1 t l)) :=
 ⟨fun _ _ => rfl, fun l t _ _ => by simp only [fin, I.plain, if_true, kH], fun l t _ => by simp only [fin, I.plain, if_true, kH], fun l t _ => by simp only [fin, I.plain, if_true, kH], fun l t _ => by simp only [fin, I.plain, if_true, kH], fun l t _ => by simp only [fin, I.plain, if_true, kH], fun l t _ _ => by simp only [fin, I.plain, if_true, kH], fun l t _ _ => by simp only [fin, I.plain, if_true, kH], fun l t _ _ => by simp only [fin, I.plain, if_true, kH], fun l t  => by simp only [fin, I.plain, if_true, kH], fun l t  => by simp only [fin, I.plain, if_true, kH], fun l t  => by simp only [fin, I.plain, if_true, kH], fun l t  => by simp only [fin, I.plain, if_true, kH], fun l t _ _ => by simp only [fin, I.plain, Bool.false_eq_true, if_false, wx, kH], fun l t _ => by simp only [fin, I.plain, Bool.false_eq_true, if_false, wx, kH], fun l t _ => by simp only [fin, I.plain, wx, kH]; split <;> rfl, fun l t _ => by simp only [fin, I.plain, wx, kH]; split <;> rfl⟩
theorem uu :
  (∀ (k : IntKind) (n : Int), I.plain (.int k n) = true) ∧
  (∀ (b : Bool), I.plain (.bool b) = true) ∧
  (∀ (x : List UInt8), I.plain (.str x) = true) ∧
  (∀ (xs : List I), I.plain (.slice xs) = true) ∧
  (∀ (d : I), I.plain (.ref d) = true) ∧
  (∀ (f : FuncId) (cap : List I), I.plain (.fn f cap) = true) ∧
  (∀ (x : Nat) (q : List Nat), I.plain (.h x q) = true) ∧
  (∀ (x : Nat) (q : List Nat), I.plain (.ax x q) = true) ∧
  (I.plain .dC = true) ∧
  (I.plain .bg = true) ∧
  (I.plain .fi = true) ∧
  (I.plain .hole = true) ∧
  (∀ (sz : Nat) (xs : List I), I.plain (.aw sz xs) = false) ∧
  (∀ (d : I), I.plain (.a8 d) = false) ∧
  (∀ (aB : List I), I.plain (.agg aB) = I.dI aB) ∧
  (∀ (aB : List I), I.plain (.tuple aB) = I.dI aB) ∧
  (I.dI [] = true) ∧
  (∀ d ds, I.dI (d :: ds) = (d.plain && I.dI ds)) :=
 ⟨fun _ _ => rfl, fun _ => rfl, fun _ => rfl, fun _ => rfl, fun _ => rfl, fun _ _ => rfl, fun _ _ => rfl, fun _ _ => rfl, rfl, rfl, rfl, rfl, fun _ _ => rfl, fun _ => rfl, fun _ => rfl, fun _ => rfl, rfl, fun _ _ => rfl⟩
theorem Iz :
  (∀ (s : au) (k : IntKind) (n : Int), i2 s (.int k n) = some ((.int k n), s)) ∧
  (∀ (s : au) (b : Bool), i2 s (.bool b) = some ((.bool b), s)) ∧
  (∀ (s : au) (x : List UInt8), i2 s (.str x) = some ((.str x), s)) ∧
  (∀ (s : au) (xs : List I), i2 s (.slice xs) = some ((.slice xs), s)) ∧
  (∀ (s : au) (d : I), i2 s (.ref d) = some ((.ref d), s)) ∧
  (∀ (s : au) (f : FuncId) (cap : List I), i2 s (.fn f cap) = some ((.fn f cap), s)) ∧
  (∀ (s : au) (x : Nat) (q : List Nat), i2 s (.ax x q) = some ((.ax x q), s)) ∧
  (∀ (s : au) , i2 s .dC = some (.dC, s)) ∧
  (∀ (s : au) , i2 s .bg = some (.bg, s)) ∧
  (∀ (s : au) , i2 s .fi = some (.fi, s)) ∧
  (∀ (s : au) , i2 s .hole = some (.hole, s)) ∧
  (∀ (s : au) (sz : Nat) (xs : List I), i2 s (.aw sz xs) = some ((.aw sz xs), s)) ∧
  (∀ (s : au) (d : I), i2 s (.a8 d) = some ((.a8 d), s)) ∧
  (∀ (s : au) (aB : List I), i2 s (.agg aB) = some ((.agg aB), s)) ∧
  (∀ (s : au) (aB : List I), i2 s (.tuple aB) = some ((.tuple aB), s)) ∧
  (∀ (s : au) y q, i2 s (.h y q) = cT s (.h y q)) :=
 ⟨fun _ _ _ => rfl, fun _ _ => rfl, fun _ _ => rfl, fun _ _ => rfl, fun _ _ => rfl, fun _ _ _ => rfl, fun _ _ _ => rfl, fun _  => rfl, fun _  => rfl, fun _  => rfl, fun _  => rfl, fun _ _ _ => rfl, fun _ _ => rfl, fun _ _ => rfl, fun _ _ => rfl, fun _ _ _ => rfl⟩
theorem IA :
  (∀ (t : Nat) (k : IntKind) (n : Int), cP t (.int k n) = (.int k n)) ∧
  (∀ (t : Nat) (b : Bool), cP t (.bool b) = (.bool b)) ∧
  (∀ (t : Nat) (x : List UInt8), cP t (.str x) = (.str x)) ∧
  (∀ (t : Nat) (xs : List I), cP t (.slice xs) = (.slice xs)) ∧
  (∀ (t : Nat) (d : I), cP t (.ref d) = (.ref d)) ∧
  (∀ (t : Nat) , cP t .dC = .dC) ∧
  (∀ (t : Nat) , cP t .bg = .bg) ∧
  (∀ (t : Nat) , cP t .fi = .fi) ∧
  (∀ (t : Nat) , cP t .hole = .hole) ∧
  (∀ (t : Nat) (sz : Nat) (xs : List I), cP t (.aw sz xs) = (.aw sz xs)) ∧
  (∀ (t : Nat) (d : I), cP t (.a8 d) = (.a8 d)) ∧
  (∀ (t : Nat) (aB : List I), cP t (.agg aB) = (.agg aB)) ∧
  (∀ (t : Nat) (aB : List I), cP t (.tuple aB) = (.tuple aB)) ∧
  (∀ (t y : Nat) q, cP t (.h y q) = if y = t then .hole else .h y q) ∧
  (∀ (t y : Nat) q, cP t (.ax y q) = if y = t then .hole else .ax y q) ∧
  (∀ (t : Nat) f c, cP t (.fn f c) = .fn f (iX t c)) ∧
  (∀ t, iX t [] = []) ∧
  (∀ t d ds, iX t (d :: ds) = cP t d :: iX t ds) ∧
  (∀ t, n1 t [] = []) ∧
  (∀ t u d l, n1 t ((u, d) :: l) = (u, cP t d) :: n1 t l) ∧
  (∀ t l, ly t (aa l) = aa (n1 t l)) :=
 ⟨fun _ _ _ => by unfold cP; rfl, fun _ _ => by unfold cP; rfl, fun _ _ => by unfold cP; rfl, fun _ _ => by unfold cP; rfl, fun _ _ => by unfold cP; rfl, fun _  => by unfold cP; rfl, fun _  => by unfold cP; rfl, fun _  => by unfold cP; rfl, fun _  => by unfold cP; rfl, fun _ _ _ => by unfold cP; rfl, fun _ _ => by unfold cP; rfl, fun _ _ => by unfold cP; rfl, fun _ _ => by unfold cP; rfl, fun _ _ _ => by unfold cP; rfl, fun _ _ _ => by unfold cP; rfl, fun _ _ _ => by simp only [cP], fun _ => by simp only [iX], fun _ _ _ => by simp only [iX], fun _ => rfl, fun _ _ _ _ => rfl, fun t l => wx t l⟩
theorem IB :
  (∀ (t : Nat) (k : IntKind) (n : Int), cc t (.int k n) = (.int k n)) ∧
  (∀ (t : Nat) (b : Bool), cc t (.bool b) = (.bool b)) ∧
  (∀ (t : Nat) (x : List UInt8), cc t (.str x) = (.str x)) ∧
  (∀ (t : Nat) (xs : List I), cc t (.slice xs) = (.slice xs)) ∧
  (∀ (t : Nat) (d : I), cc t (.ref d) = (.ref d)) ∧
  (∀ (t : Nat) , cc t .dC = .dC) ∧
  (∀ (t : Nat) , cc t .bg = .bg) ∧
  (∀ (t : Nat) , cc t .fi = .fi) ∧
  (∀ (t : Nat) , cc t .hole = .hole) ∧
  (∀ (t : Nat) (sz : Nat) (xs : List I), cc t (.aw sz xs) = (.aw sz xs)) ∧
  (∀ (t : Nat) (d : I), cc t (.a8 d) = (.a8 d)) ∧
  (∀ (t : Nat) (aB : List I), cc t (.agg aB) = (.agg aB)) ∧
  (∀ (t : Nat) (aB : List I), cc t (.tuple aB) = (.tuple aB)) ∧
  (∀ (t y : Nat), cc t (.h y []) = .h y []) ∧
  (∀ (t y k : Nat) q, cc t (.h y (k :: q)) = if y = t then .hole else .h y (k :: q)) ∧
  (∀ (t y : Nat) q, cc t (.ax y q) = if y = t then .hole else .ax y q) ∧
  (∀ (t : Nat) f c, cc t (.fn f c) = .fn f (ix t c)) ∧
  (∀ t, ix t [] = []) ∧
  (∀ t d ds, ix t (d :: ds) = cc t d :: ix t ds) ∧
  (∀ t, rP t [] = []) ∧
  (∀ t u d l, rP t ((u, d) :: l) = (u, cc t d) :: rP t l) ∧
  (∀ t l, iJ t (aa l) = aa (rP t l)) :=
 ⟨fun _ _ _ => by unfold cc; rfl, fun _ _ => by unfold cc; rfl, fun _ _ => by unfold cc; rfl, fun _ _ => by unfold cc; rfl, fun _ _ => by unfold cc; rfl, fun _  => by unfold cc; rfl, fun _  => by unfold cc; rfl, fun _  => by unfold cc; rfl, fun _  => by unfold cc; rfl, fun _ _ _ => by unfold cc; rfl, fun _ _ => by unfold cc; rfl, fun _ _ => by unfold cc; rfl, fun _ _ => by unfold cc; rfl, fun _ _ => by simp [cc], fun _ _ _ _ => by simp [cc], fun _ _ _ => by unfold cc; rfl, fun _ _ _ => by simp only [cc], fun _ => by simp only [ix], fun _ _ _ => by simp only [ix], fun _ => rfl, fun _ _ _ _ => rfl, fun t l => Qm t l⟩
def Em : m2 → Bool → Option I
 | .bool, b => some (.bool b)
 | _, _ => none
def rV (neg : Bool) : m2 → Option (Option Bool) → Option I
 | .slice _, some r => some (vH neg r)
 | _, _ => none
def rW (neg : Bool) : m2 → Option Bool → Option I
 | .ptr _, some b => some (.bool (b != neg))
 | _, _ => none
theorem IC (C : cn) (s : au) (T : TypeId) :
  (∀ op k a dd b, aq C s op T (.int k a) (.int dd b) = iM op k a dd b) ∧
  (∀ op a b, aq C s op T (.str a) (.str b) = mB op a b) ∧
  (∀ a b, aq C s .eql T (.bool a) (.bool b) = Em (C.T T).k (a == b)) ∧
  (∀ a b, aq C s .neq T (.bool a) (.bool b) = Em (C.T T).k (!(a == b))) ∧
  (∀ xs, aq C s .eql T (.slice xs) .bg = rV false (C.T T).k (kV s (.slice xs))) ∧
  (∀ xs, aq C s .neq T (.slice xs) .bg = rV true (C.T T).k (kV s (.slice xs))) ∧
  (aq C s .eql T .bg .bg = rV false (C.T T).k (kV s .bg)) ∧
  (aq C s .neq T .bg .bg = rV true (C.T T).k (kV s .bg)) ∧
  (∀ x q, aq C s .eql T (.h x q) .bg = rV false (C.T T).k (kV s (.h x q))) ∧
  (∀ x q, aq C s .neq T (.h x q) .bg = rV true (C.T T).k (kV s (.h x q))) ∧
  (∀ x q, aq C s .eql T (.h x q) .dC = rW false (C.T T).k (kW s (.h x q))) ∧
  (∀ x q, aq C s .neq T (.h x q) .dC = rW true (C.T T).k (kW s (.h x q))) ∧
  (∀ d, aq C s .eql T (.ref d) .dC = rW false (C.T T).k (kW s (.ref d))) ∧
  (∀ d, aq C s .neq T (.ref d) .dC = rW true (C.T T).k (kW s (.ref d))) ∧
  (aq C s .eql T .dC .dC = rW false (C.T T).k (kW s .dC)) ∧
  (aq C s .neq T .dC .dC = rW true (C.T T).k (kW s .dC)) := by
 refine ⟨?_, ?_, ?_, ?_, ?_, ?_, ?_, ?_, ?_, ?_, ?_, ?_, ?_, ?_, ?_, ?_⟩ <;> intros <;> first
  | rfl
  | (simp only [aq]
     generalize (C.T T).k = lA
     cases lA <;> first | rfl | (simp only [rV]; generalize kV s _ = v; cases v <;> rfl) | (simp only [rW]; generalize kW s _ = v; cases v <;> (try (rename_i b; cases b)) <;> rfl))
theorem ID (k : IntKind) (a b : Int) :
  iM .add k a k b = some (.int k (k.wrap (a + b))) ∧ iM .sub k a k b = some (.int k (k.wrap (a - b))) ∧ iM .mul k a k b = some (.int k (k.wrap (a * b))) ∧
  iM .eql k a k b = some (.bool (a == b)) ∧ iM .neq k a k b = some (.bool (a != b)) ∧ iM .lss k a k b = some (.bool (decide (a < b))) ∧ iM .leq k a k b = some (.bool (decide (a ≤ b))) ∧
  iM .gtr k a k b = some (.bool (decide (b < a))) ∧ iM .geq k a k b = some (.bool (decide (b ≤ a))) ∧
  iM .and k a k b = some (.int k (bitsOf .and k a b)) ∧ iM .or k a k b = some (.int k (bitsOf .or k a b)) ∧ iM .xor k a k b = some (.int k (bitsOf .xor k a b)) ∧ iM .andNot k a k b = some (.int k (bitsOf .andNot k a b)) := by
 simp [iM]
theorem Q4 {k : IntKind} {a b : Int} (h : b ≠ 0) : iM .quo k a k b = some (.int k (k.wrap (a.tdiv b))) := by simp [iM, h]
theorem Q5 {k : IntKind} {a b : Int} (h : b ≠ 0) : iM .rem k a k b = some (.int k (a.tmod b)) := by simp [iM, h]
theorem IE (a b : List UInt8) :
  mB .eql a b = some (.bool (a == b)) ∧ mB .neq a b = some (.bool !(a == b)) ∧ mB .lss a b = some (.bool (Op.bytesLess a b)) ∧
  mB .leq a b = some (.bool (Op.bytesLess a b || a == b)) ∧ mB .gtr a b = some (.bool !(Op.bytesLess a b || a == b)) ∧ mB .geq a b = some (.bool !(Op.bytesLess a b)) := by
 refine ⟨rfl, rfl, rfl, rfl, rfl, rfl⟩
theorem IF : (∀ b, un .not (.bool b) = some (.bool !b)) ∧ (un .not .fi = some .fi) ∧ (∀ k n, un .neg (.int k n) = some (.int k (k.wrap (0 - n)))) := ⟨fun _ => rfl, rfl, fun _ _ => rfl⟩
def En : m2 → Option UInt8 → Option I
 | .str, some c => some (.int .u8 c.toNat)
 | _, _ => none
theorem IG (C : cn) (T : TypeId) (l : List UInt8) (k : IntKind) (n : Int) : idx C T (.str l) (.int k n) = En (C.T T).k (bI l n) := by
 simp only [idx, bI]
 generalize (C.T T).k = lA
 cases lA <;> first | rfl | (simp only [En]; split <;> first | rfl | (cases l[n.toNat]? <;> rfl))
def Eo (C : cn) : m2 → Option I → Option I
 | .slice e, some d => if (C.T e).ok = true ∧ d.wd = (C.T e).sz then some (.ref d) else none
 | _, _ => none
theorem IH (C : cn) (s : au) (T : TypeId) (xs : List I) (k : IntKind) (n : Int) : bK C s T (.slice xs) (.int k n) = Eo C (C.T T).k (bI xs n) := by
 simp only [bK, bI]
 generalize (C.T T).k = lA
 cases lA <;> first | rfl | skip
 simp only [Eo]
 by_cases ba : 0 ≤ n
 ·simp only [ba, true_and, if_true]
  split
  ·cases xs[n.toNat]? <;> simp [*]
  ·cases xs[n.toNat]? <;> simp [*]
 ·simp only [ba, false_and, if_false]
def wB (C : cn) (y : Nat) (q : List Nat) (n : Int) : m2 → Option I → Option I
 | .slice e, some (.aw sz xs) => if (bI xs n).isSome = true ∧ (C.T e).ok = true ∧ sz = (C.T e).sz then some (.ax y (q ++ [n.toNat])) else none
 | _, _ => none
theorem II (C : cn) (s : au) (T : TypeId) (y : Nat) (q : List Nat) (k : IntKind) (n : Int) : bK C s T (.h y q) (.int k n) = wB C y q n (C.T T).k (I.sub q (s y)) := by
 simp only [bK]
 generalize (C.T T).k = lA
 cases lA <;> first | rfl | skip
 rename_i e
 cases ah : I.sub q (s y) with
 | none => simp [wB]
 | some d =>
   cases d <;> first
    | (simp [wB]; done)
    | skip
   rename_i sz xs
   have b6 : (bI xs n).isSome = true ↔ 0 ≤ n ∧ n.toNat < xs.length := by
    unfold bI; split <;> simp_all <;> omega
   simp only [wB, b6]
   by_cases ba : 0 ≤ n <;> by_cases ai : (C.T e).ok = true <;> simp [ba, ai]
def uv : m2 → au → Option (List UInt8) → Option (I × au)
 | .str, s, some t => some (.str t, s)
 | _, _, _ => none
def uw (C : cn) : m2 → au → List I → Option (List I) → Option (I × au)
 | .slice e, s, xs, some t => if (C.T e).ok = true ∧ ∀ d ∈ xs, d.wd = (C.T e).sz then some (.slice t, s) else none
 | _, _, _, _ => none
theorem IJ (C : cn) (s : au) (T : TypeId) (l : List UInt8) :
  (∀ k a dd b, fA C s T (.str l) (some (.int k a)) (some (.int dd b)) = uv (C.T T).k s (jx l a b)) ∧
  (∀ dd b, fA C s T (.str l) none (some (.int dd b)) = uv (C.T T).k s (jx l 0 b)) ∧
  (∀ k a, fA C s T (.str l) (some (.int k a)) none = uv (C.T T).k s (jx l a l.length)) := by
 have e : ∀ (de ar : Option I) (a b : Int), (jY 0 de = if 0 ≤ a then some a.toNat else none) → (jY l.length ar = if 0 ≤ b then some b.toNat else none) → fA C s T (.str l) de ar = uv (C.T T).k s (jx l a b) := by
  intro de ar a b ai aj
  simp only [fA]
  generalize (C.T T).k = lA
  cases lA <;> first | rfl | skip
  simp only [ai, aj, jx]
  by_cases cw : 0 ≤ a <;> by_cases ae : 0 ≤ b <;> simp only [cw, ae, if_true, if_false, uv, true_and, false_and]
  ·by_cases ay : a ≤ b ∧ b ≤ l.length
   ·rw [if_pos ⟨by omega, by omega⟩, if_pos ay]
   ·rw [if_neg (fun h => ay ⟨by omega, by omega⟩), if_neg ay]
  ·rw [if_neg (by omega)]
 exact ⟨fun k a dd b => e _ _ a b rfl rfl, fun dd b => e _ _ 0 b rfl rfl, fun k a => e _ _ a l.length rfl (by simp [jY])⟩
theorem IK (C : cn) (s : au) (T : TypeId) (xs : List I) :
  (∀ k a dd b, fA C s T (.slice xs) (some (.int k a)) (some (.int dd b)) = uw C (C.T T).k s xs (jx xs a b)) ∧
  (∀ dd b, fA C s T (.slice xs) none (some (.int dd b)) = uw C (C.T T).k s xs (jx xs 0 b)) ∧
  (∀ k a, fA C s T (.slice xs) (some (.int k a)) none = uw C (C.T T).k s xs (jx xs a xs.length)) := by
 have e : ∀ (de ar : Option I) (a b : Int), (jY 0 de = if 0 ≤ a then some a.toNat else none) → (jY xs.length ar = if 0 ≤ b then some b.toNat else none) → fA C s T (.slice xs) de ar = uw C (C.T T).k s xs (jx xs a b) := by
  intro de ar a b ai aj
  simp only [fA]
  generalize (C.T T).k = lA
  cases lA <;> first | rfl | skip
  simp only [ai, aj, jx]
  by_cases cw : 0 ≤ a <;> by_cases ae : 0 ≤ b <;> simp only [cw, ae, if_true, if_false, uw, true_and, false_and]
  ·by_cases ay : a ≤ b ∧ b ≤ xs.length
   ·rw [if_pos ay]
    have ai : a.toNat ≤ b.toNat := by omega
    have aj : b.toNat ≤ xs.length := by omega
    simp only [ai, aj, true_and]
   ·rw [if_neg (fun h => ay ⟨by omega, by omega⟩), if_neg ay]
  ·rw [if_neg (by omega)]
 exact ⟨fun k a dd b => e _ _ a b rfl rfl, fun dd b => e _ _ 0 b rfl rfl, fun k a => e _ _ a xs.length rfl (by simp [jY])⟩
def wC (q : List Nat) : Option I → Option I
 | some d => I.sub q d
 | none => none
theorem IL : (∀ d, I.sub [] d = some d) ∧ (∀ k q aB, I.sub (k :: q) (.agg aB) = wC q aB[k]?) ∧ (∀ k q aB, I.sub (k :: q) (.tuple aB) = wC q aB[k]?) ∧ (∀ k q sz xs, I.sub (k :: q) (.aw sz xs) = wC q xs[k]?) ∧
  (∀ q d, I.sub (0 :: q) (.a8 d) = I.sub q d) ∧ (∀ q d, wC q (some d) = I.sub q d) ∧
  (∀ k q a b, I.sub (k :: q) (.int a b) = none) := by
 refine ⟨fun d => by simp [I.sub], ?_, ?_, ?_, fun q d => by simp [I.sub], fun _ _ => rfl, fun _ _ _ _ => by simp [I.sub]⟩
 ·intro k q aB; simp only [I.sub]; cases aB[k]? <;> rfl
 ·intro k q aB; simp only [I.sub]; cases aB[k]? <;> rfl
 ·intro k q sz aB; simp only [I.sub]; cases aB[k]? <;> rfl
def IM (k : Nat) (q : List Nat) (n : I) (aB : List I) : Option I → I
 | some d => .agg (aB.set k (I.put q n d))
 | none => .agg aB
def IP (k : Nat) (q : List Nat) (n : I) (aB : List I) : Option I → I
 | some d => .tuple (aB.set k (I.put q n d))
 | none => .tuple aB
def IQ (k : Nat) (q : List Nat) (n : I) (sz : Nat) (xs : List I) : Option I → I
 | some d => .aw sz (xs.set k (I.put q n d))
 | none => .aw sz xs
theorem IU : (∀ n d, I.put [] n d = n) ∧ (∀ k q n aB, I.put (k :: q) n (.agg aB) = IM k q n aB aB[k]?) ∧ (∀ k q n aB, I.put (k :: q) n (.tuple aB) = IP k q n aB aB[k]?) ∧
  (∀ k q n sz xs, I.put (k :: q) n (.aw sz xs) = IQ k q n sz xs xs[k]?) ∧ (∀ q n d, I.put (0 :: q) n (.a8 d) = .a8 (I.put q n d)) ∧
  (∀ k q n aB d, IM k q n aB (some d) = .agg (aB.set k (I.put q n d))) ∧ (∀ k q n aB d, IP k q n aB (some d) = .tuple (aB.set k (I.put q n d))) ∧
  (∀ k q n sz xs d, IQ k q n sz xs (some d) = .aw sz (xs.set k (I.put q n d))) := by
 refine ⟨fun n d => by simp [I.put], ?_, ?_, ?_, fun q n d => by simp [I.put], fun _ _ _ _ _ => rfl, fun _ _ _ _ _ => rfl, fun _ _ _ _ _ _ => rfl⟩
 ·intro k q n aB; simp only [I.put]; cases aB[k]? <;> rfl
 ·intro k q n aB; simp only [I.put]; cases aB[k]? <;> rfl
 ·intro k q n sz aB; simp only [I.put]; cases aB[k]? <;> rfl
theorem Ep : (∀ k n, I.wd (.int k n) = 1) ∧ (∀ b, I.wd (.bool b) = 1) ∧ (∀ x, I.wd (.str x) = 1) ∧ (∀ x, I.wd (.slice x) = 1) ∧ (∀ n x, I.wd (.aw n x) = 1) ∧ (∀ x, I.wd (.ref x) = 1) ∧ (∀ x, I.wd (.a8 x) = 1) ∧
  I.wd .bg = 1 ∧ I.wd .dC = 1 ∧ I.wd .hole = 1 ∧ I.wd .fi = 1 ∧ (∀ x y, I.wd (.h x y) = 1) ∧ (∀ x y, I.wd (.ax x y) = 1) ∧ (∀ x y, I.wd (.fn x y) = 1) ∧ (∀ aB, I.wd (.agg aB) = I.ev aB) ∧ (∀ aB, I.wd (.tuple aB) = I.ev aB) ∧ I.ev [] = 0 ∧ (∀ d ds, I.ev (d :: ds) = d.wd + I.ev ds) := by
 simp [I.wd, I.ev]
theorem Q6 {α : Type} {e : α → I} {n : Nat} (h : ∀ x, (e x).wd = n) (xs : List α) : (∀ d ∈ xs.map e, d.wd = n) = True := by
 simp only [List.mem_map, eq_iff_iff, iff_true]
 rintro d ⟨x, _, rfl⟩; exact h x
theorem Q7 (C : cn) (s : au) (A B : TypeId) (k dd : IntKind) (n : Int) (iN : (C.T A).ok = true) (hs : (C.T B).k = .int dd) : fW C s A B (.int k n) = some (.int dd (dd.wrap n)) := by
 simp only [fW, iN, hs, if_true]
theorem IV (m : Int) : kh (pq m) = .int .u8 (IntKind.u8.wrap m) := by
 have h : 0 ≤ IntKind.u8.wrap m ∧ IntKind.u8.wrap m < 256 := by rw [IntKind.wrap_u8]; omega
 simp only [kh, pq, UInt8.toNat_ofNat']
 congr 1
 omega
theorem Er (m : Int) : ((pq m).toNat : Int) = IntKind.u8.wrap m := by
 have h := IV m
 simpa [kh] using h
section
variable {C : cn} {l : List (Nat × I)} {Q : Exit → au → Prop} {s : au}
theorem j3 {ros : List cI} {k : List Nat} (h : cy C (aa l) ros none (fun _ s => Q .normal (aa (iR k s)))) : dj C (.U ros (some k)) Q (aa l) := rS (fun _ _ h => h) h
theorem aN {a b : R} (h : ∀ gE : Exit → au → Prop, (∀ s, eA (dj C b Q) s → gE .normal s) → (∀ s, Q .ret s → gE .ret s) → (∀ i s, Q (.exit i) s → gE (.exit i) s) → dj C a gE s) : dj C (.seq a b) Q s :=
 h _ (fun _ h => h) (fun _ h => h) (fun _ _ h => h)
theorem cY {ros : List cI} {k : List Nat} {b : R} (h : cy C (aa l) ros none (fun _ s => dj C b Q (aa (iR k s)))) : dj C (.seq (.U ros (some k)) b) Q (aa l) := rS (fun _ _ h => .inl h) h
theorem hg {ros : List cI} {g9 : List (List Nat)} {k : List Nat} {b : R} (hlen : g9.length = ros.length) (h : cy C (aa l) ros (some []) (fun acc s => l_ (tS g9) 0 [] (acc.getD []).reverse = true ∧ dj C b Q (aa (iR k s)))) :
  dj C (.seq (.g8 ros g9 (some k)) b) Q (aa l) := QT (K := fun s => eA (dj C b Q) (aa (iR k s))) hlen (by
   have key : ∀ (os : List cI) (s : au) (acc : Option (List fD)), cy C s os acc (fun acc s => l_ (tS g9) 0 [] (acc.getD []).reverse = true ∧ dj C b Q (aa (iR k s))) →
     cy C s os acc (fun acc s => l_ (tS g9) 0 [] (acc.getD []).reverse = true ∧ eA (dj C b Q) (aa (iR k s))) := by
    intro os
    induction os with
    | nil => intro s acc h; exact ⟨h.1, .inl h.2⟩
    | cons o os ih =>
      intro s acc h
      have mono : ∀ {s : au} {bM : fZ} {K dt : List Nat → I → au → Prop}, (∀ a b c, K a b c → dt a b c) → nk C s bM K → nk C s bM dt := by
       intro s bM K dt aE h
       cases bM with
       | call f args =>
         obtain ⟨g, caps, ps, r, ai, gg, aj, aP, bb, b5, cF, cq, fO⟩ := h
         exact ⟨g, caps, ps, r, ai, gg, aj, aP, bb, b5, cF, cq, aE _ _ _ fO⟩
       | shr bM => obtain ⟨av, s1, ai, aj, aP, bb⟩ := h; exact ⟨av, s1, ai, aj, aP, aE _ _ _ bb⟩
       | l3 f args u x =>
         obtain ⟨b8, cu, g, caps, ps, r, ai, gg, aj, aP, bb, b5, cF, cq, fO, iI, hO⟩ := h
         exact ⟨b8, cu, g, caps, ps, r, ai, gg, aj, aP, bb, b5, cF, cq, fO, iI, aE _ _ _ hO⟩
       | j1 f args us =>
         obtain ⟨cu, g, caps, ps, r, ai, gg, aj, aP, bb, b5, cF, cq, fO, iI⟩ := h
         exact ⟨cu, g, caps, ps, r, ai, gg, aj, aP, bb, b5, cF, cq, fO, aE _ _ _ iI⟩
       | _ => obtain ⟨av, s1, ai, aj⟩ := h; exact ⟨av, s1, ai, aE _ _ _ aj⟩
      simp only [cy, mI] at h ⊢
      split
      ·rename_i b6; rw [b6] at h; exact mono (fun _ _ _ => ih _ _) h
      ·rename_i t fU b6
       rw [b6] at h
       simp only at h
       split
       ·rename_i auX ah
        rw [ah] at h
        simp only at h
        split
        ·rename_i ae; rw [if_pos ae] at h; exact mono (fun _ _ _ => ih _ _) h
        ·rename_i ae; rw [if_neg ae] at h; exact ih _ _ h
       ·rename_i ah; rw [ah] at h; exact ih _ _ h
       ·rename_i ai aj
        split at h
        ·exact ai _ (by assumption)
        ·exact aj (by assumption)
        ·exact h
   exact key _ _ _ h)
theorem aW {c : aG} {a b : R} (ay : aR s c = .bool true) (h : dj C a Q s) : dj C (.cond c a b) Q s := by simp only [dj, ay, if_true]; exact h
theorem aZ {c : aG} {a b : R} (ay : aR s c = .bool false) (h : dj C b Q s) : dj C (.cond c a b) Q s := by simp only [dj, ay]; exact h
theorem bH {id : Nat} {b : R} (h : ∀ gE : Exit → au → Prop, (∀ s, Q .normal s → gE .normal s) → (∀ s, Q .ret s → gE .ret s) → (∀ s, Q .normal s → gE (.exit id) s) → (∀ i s, i ≠ id → Q (.exit i) s → gE (.exit i) s) → dj C b gE s) : dj C (.block id b) Q s :=
 h (tK id Q) (fun _ h => h) (fun _ h => h) (fun s h => by simp only [tK, if_true]; exact h) (fun i s ar h => by simp only [tK, if_neg ar]; exact h)
theorem dL {id : Nat} (h : Q (.exit id) s) : dj C (.exit id) Q s := h
theorem aK (h : Q .ret s) : dj C .ret Q s := h
theorem a5 (h : Q .normal s) : dj C .skip Q s := h
def dA (C : cn) (b : R) (Q : Exit → au → Prop) (s : au) : Prop := ∀ Z : au → Prop, (∀ az, dj C b (andThen (eA Z) Q) az → Z az) → Z s
theorem dM {b : R} (h : eA (dA C b Q) s) : dj C (.loop b) Q s := h
theorem dN {b : R} (h : ∀ gE : Exit → au → Prop, (∀ s, eA (dA C b Q) s → gE .normal s) → (∀ s, Q .ret s → gE .ret s) → (∀ i s, Q (.exit i) s → gE (.exit i) s) → dj C b gE s) : dA C b Q s := by
 intro Z tM
 refine tM s (D5 b ?_ (h (andThen (eA (dA C b Q)) Q) (fun _ h => h) (fun _ h => h) (fun _ _ h => h)))
 intro e az bB
 cases e with
 | normal => exact tL (fun s h => h Z tM) az bB
 | _ => exact bB
theorem bq {ed : List (Nat × I)} (h : ed.map (·.2) = ed.map fun p => s p.1) : rM s ed := by
 intro p ax
 left
 induction ed with
 | nil => cases ax
 | cons a ed ih =>
   simp only [List.map_cons, List.cons.injEq] at h
   rcases List.mem_cons.1 ax with rfl | ax
   ·exact h.1
   ·exact ih h.2 ax
end
section
variable {C : cn} {l : List (Nat × I)} {Q : Exit → au → Prop} {s : au} {os ros : List cI} {K : Option (List fD) → au → Prop} {dst : Option Nat}
theorem IW (l : List (Nat × I)) : (∀ n, aR (aa l) (.t n) = iY n (aa l n)) ∧ (∀ av, aR (aa l) (.c av) = av) ∧ (∀ g, aR (aa l) (.f g) = .fn g []) := ⟨fun _ => rfl, fun _ => rfl, fun _ => rfl⟩
theorem IX : (∀ t, aa [] t = .hole) ∧ (∀ u d (l : List (Nat × I)) t, aa ((u, d) :: l) t = if t = u then d else aa l t) := ⟨fun _ => rfl, fun _ _ _ _ => rfl⟩
theorem IY (s : au) : iR [] s = [] ∧ (∀ t k, iR (t :: k) s = (t, s t) :: iR k s) := ⟨rfl, fun _ _ => rfl⟩
theorem IZ (s : au) : (∀ d, c9 s (some d) = some (d, s)) ∧ (∀ s1, ei (some s1) = some (.hole, s1)) ∧ h0 s [] = [] ∧ (∀ x xs, h0 s (x :: xs) = aR s x :: h0 s xs) ∧ j2 s [] = [] ∧ (∀ k x xs, j2 s ((k, x) :: xs) = (k, aR s x) :: j2 s xs) ∧
  k4 s none = none ∧ (∀ x, k4 s (some x) = some (aR s x)) ∧ (∀ b x y, qt s (.bool b) x y = some (if b = true then x else y, s)) :=
 ⟨fun _ => rfl, fun _ => rfl, rfl, fun _ _ => rfl, rfl, fun _ _ _ => rfl, rfl, fun _ => rfl, fun b _ _ => by cases b <;> rfl⟩
theorem I0 (C : cn) : (∀ e d, Eo C (.slice e) (some d) = if (C.T e).ok = true ∧ d.wd = (C.T e).sz then some (.ref d) else none) ∧
  (∀ y q n e sz xs, wB C y q n (.slice e) (some (.aw sz xs)) = if (bI xs n).isSome = true ∧ (C.T e).ok = true ∧ sz = (C.T e).sz then some (.ax y (q ++ [n.toNat])) else none) ∧
  (∀ e s xs t, uw C (.slice e) s xs (some t) = if (C.T e).ok = true ∧ ∀ d ∈ xs, d.wd = (C.T e).sz then some (.slice t, s) else none) :=
 ⟨fun _ _ => rfl, fun _ _ _ _ _ _ => rfl, fun _ _ _ _ => rfl⟩
theorem I1 : (∀ b, Em .bool b = some (.bool b)) ∧ (∀ c, En .str (some c) = some (.int .u8 c.toNat)) ∧ (∀ s t, uv .str s (some t) = some (.str t, s)) ∧ (∀ q d, wC q (some d) = I.sub q d) :=
 ⟨fun _ => rfl, fun _ => rfl, fun _ _ => rfl, fun _ _ => rfl⟩
theorem I2 (sz bytes : Nat) (z : I) : (∀ k, g4.ok ⟨.int k, sz, bytes, z⟩ = true) ∧ g4.ok ⟨.bool, sz, bytes, z⟩ = true ∧ g4.ok ⟨.str, sz, bytes, z⟩ = true ∧ (∀ e, g4.ok ⟨.ptr e, sz, bytes, z⟩ = true) ∧ (∀ e, g4.ok ⟨.slice e, sz, bytes, z⟩ = true) ∧ (∀ e, g4.ok ⟨.struct e, sz, bytes, z⟩ = true) ∧ g4.ok ⟨.fn, sz, bytes, z⟩ = true := by
 simp [g4.ok]
theorem I3 (sz bytes : Nat) (z : I) : (∀ k, g4.flat ⟨.int k, sz, bytes, z⟩ = true) ∧ g4.flat ⟨.bool, sz, bytes, z⟩ = true ∧ g4.flat ⟨.str, sz, bytes, z⟩ = true ∧ (∀ e, g4.flat ⟨.ptr e, sz, bytes, z⟩ = true) ∧ (∀ e, g4.flat ⟨.slice e, sz, bytes, z⟩ = true) ∧ (∀ e, g4.flat ⟨.struct e, sz, bytes, z⟩ = false) ∧ g4.flat ⟨.fn, sz, bytes, z⟩ = true := by
 simp [g4.flat]
theorem wD (c : UInt8) (k : IntKind) (aE : k ≠ .i8) : k.wrap (c.toNat : Int) = (c.toNat : Int) := by
 have := c.toNat_lt
 cases k <;> first | (exact (aE rfl).elim) | (simp [IntKind.wrap, IntKind.bits, IntKind.signed]; try omega)
theorem Es (c : UInt8) : IntKind.i64.wrap (c.toNat : Int) = (c.toNat : Int) ∧ IntKind.u64.wrap (c.toNat : Int) = (c.toNat : Int) ∧ IntKind.u8.wrap (c.toNat : Int) = (c.toNat : Int) ∧ IntKind.i32.wrap (c.toNat : Int) = (c.toNat : Int) ∧ IntKind.u32.wrap (c.toNat : Int) = (c.toNat : Int) :=
 ⟨wD c _ (by simp), wD c _ (by simp), wD c _ (by simp), wD c _ (by simp), wD c _ (by simp)⟩
theorem b1 {k : List Nat} {K : au → Prop} (ed : List (Nat × I)) (h : ∀ P : List (Nat × I) → Prop, P ed → cy C (aa l) ros none (fun _ s => P (iR k s))) (aE : K (aa ed)) : cy C (aa l) ros none (fun _ s => K (aa (iR k s))) :=
 h (fun l => K (aa l)) aE
theorem hh {k : List Nat} {ma : List (List Nat)} {K : au → Prop} (ed : List (Nat × I)) (h : ∀ P : List (Nat × I) → Prop, P ed → cy C (aa l) ros (some []) (fun acc s => l_ ma 0 [] (acc.getD []).reverse = true ∧ P (iR k s))) (aE : K (aa ed)) :
  cy C (aa l) ros (some []) (fun acc s => l_ ma 0 [] (acc.getD []).reverse = true ∧ K (aa (iR k s))) :=
 h (fun l => K (aa l)) aE
theorem aT.Q8 (bA : C.fo) {f : FuncId} {fn : Func} {c : Code} {dE : R} {fx : List Nat} {as outs : List I} {r : I} (bF : C.P.funcs[f]? = some fn) (ae : fn.body = some c)
  (k3 : (fn.name == "runtime.NumGoroutine") = false) (ah : bw ⟨fn.ntmps, fx⟩ c = some dE.strip) (bd : as.length ≤ fn.ntmps)
  (h : ∀ Q : Exit → au → Prop, (∀ s, eA (Ends C fx fn.results.toList r outs) s → Q .ret s) → (∀ s, eA (Ends C fx fn.results.toList r outs) s → Q .normal s) → dj C dE Q (aa (num 0 as))) (ax : dE.plain = true := by kernel_rfl) : aT C f as r outs := by
 refine aT.of_wp bA bF ae k3 ah bd ?_ ax
 rw [zy]
 exact h _ (fun s h => ⟨.inr rfl, h⟩) (fun s h => ⟨.inl rfl, h⟩)
def Q9 : List I → I
 | [d] => d
 | ds => .tuple ds
theorem aL {fx : List Nat} {gN : List ResultVar} {r : I} {outs : List I} (ds : List I) (ai : gN.map (qq C s) = ds.map some) (aj : r = Q9 ds) (aP : (gN.map jH).Nodup)
  (bb : ∀ (i : Nat) (o : I), outs[i]? = some o → o = .hole ∨ (o = s i ∧ o.gD = true ∧ i ∈ fx ∧ i ∉ gN.map jH)) : Ends C fx gN r outs s := ⟨ds, ai, by subst aj; cases ds with | nil => rfl | cons a t => cases t <;> rfl, aP, bb⟩
theorem aM {fx : List Nat} {gN : List ResultVar} : ∀ (i : Nat) (o : I), ([] : List I)[i]? = some o → o = .hole ∨ (o = s i ∧ o.gD = true ∧ i ∈ fx ∧ i ∉ gN.map jH) := fun i o h => by simp at h
theorem I4 : ∀ (as ds : List I), (lH as ds).filter (·.g) = []
 | [], _ => rfl
 | _ :: _, [] => rfl
 | a :: as, d :: ds => by simp only [lH, List.filter_cons]; exact I4 as ds
theorem zG {f : aG} {args : List aG} {g : FuncId} {caps : List I} {K : List Nat → I → au → Prop} (ds : List I) (r : I)
  (ai : aR (aa l) f = .fn g caps) (gg : I.dI caps = true) (jb : views (aa l) (h0 (aa l) args ++ caps) = some ds)
  (b5 : aT C g ds r []) (cF : r.res = true) (cq : I.d_ (h0 (aa l) args ++ caps) = [] ∨ r.cW = true) (jc : K [] r (aa l)) : nk C (aa l) (.call f args) K := by
 obtain ⟨a4, a_, a3, c1, c6, cl, cf⟩ := Qn _ _ jb
 refine ⟨g, caps, lH (h0 (aa l) args ++ caps) ds, r, ai, gg, by rw [a4, tT], fun p ax => (a3 p ax).1, c1, by rw [a_]; exact b5.outs c6.symm, cF, ?_, by rw [cl, cf, I4]; exact jc⟩
 intro hl
 refine ⟨?_, fun p ax => by rw [(a3 p ax).2.2.1]; rfl⟩
 rcases cq with cq | cq
 ·exfalso
  simp only [jB, List.any_eq_true] at hl
  obtain ⟨p, ax, fV⟩ := hl
  have hm := (a3 p ax).2.2.2
  have : p.a.ah = [] := by
   have key : ∀ (as : List I) (a : I), a ∈ as → I.d_ as = [] → a.ah = [] := by
    intro as
    induction as with
    | nil => intro a h; cases h
    | cons b as ih =>
      intro a h he
      simp only [I.d_, List.append_eq_nil_iff] at he
      rcases List.mem_cons.1 h with rfl | h
      ·exact he.1
      ·exact ih a h he.2
   exact key _ _ hm cq
  rw [this] at fV; simp at fV
 ·exact cq
theorem fs {f : aG} {args : List aG} {g : FuncId} {caps : List I} {ds : List I} {r : I} (b5 : aT C g ds r [])
  (ai : aR (aa l) f = .fn g caps) (gg : I.dI caps = true) (jb : views (aa l) (h0 (aa l) args ++ caps) = some ds)
  (cF : r.res = true) (cq : I.d_ (h0 (aa l) args ++ caps) = [] ∨ r.cW = true)
  (jc : cy C (fin (aa l) dst r) os none K) : cy C (aa l) (⟨dst, .call f args, none⟩ :: os) none K := by
 simp only [cy, mI, oZ]
 exact zG ds r ai gg jb b5 cF cq jc
theorem i3 {a : List fD} {f : aG} {args : List aG} {g : FuncId} {caps : List I} {ds : List I} {r : I} (b5 : aT C g ds r [])
  (ai : aR (aa l) f = .fn g caps) (gg : I.dI caps = true) (jb : views (aa l) (h0 (aa l) args ++ caps) = some ds)
  (cF : r.res = true) (cq : I.d_ (h0 (aa l) args ++ caps) = [] ∨ r.cW = true)
  (jc : cy C (fin (aa l) dst r) os (some (iS (aa l) (use (aa l) (.call f args)) dst [] r :: a)) K) : cy C (aa l) (⟨dst, .call f args, none⟩ :: os) (some a) K := by
 simp only [cy, mI, oZ]
 exact zG ds r ai gg jb b5 cF cq jc
theorem ht {t : Nat} {b : Bool} {f : aG} {args : List aG} {g : FuncId} {caps : List I} {ds : List I} {r : I} (b5 : aT C g ds r [])
  (ai : aR (aa l) f = .fn g caps) (gg : I.dI caps = true) (jb : views (aa l) (h0 (aa l) args ++ caps) = some ds)
  (cF : r.res = true) (cq : I.d_ (h0 (aa l) args ++ caps) = [] ∨ r.cW = true)
  (jc : cy C (fin (aa l) dst r) os none K) : cD C l dst (.call f args) t b os none K (.bool b) := by
 simp only [cD, if_true]
 exact zG ds r ai gg jb b5 cF cq jc
theorem mb {a : List fD} {t : Nat} {b : Bool} {f : aG} {args : List aG} {g : FuncId} {caps : List I} {ds : List I} {r : I} (b5 : aT C g ds r [])
  (ai : aR (aa l) f = .fn g caps) (gg : I.dI caps = true) (jb : views (aa l) (h0 (aa l) args ++ caps) = some ds)
  (cF : r.res = true) (cq : I.d_ (h0 (aa l) args ++ caps) = [] ∨ r.cW = true)
  (jc : cy C (fin (aa l) dst r) os (some (iS (aa l) (t :: use (aa l) (.call f args)) dst [] r :: a)) K) : cD C l dst (.call f args) t b os (some a) K (.bool b) := by
 simp only [cD, if_true]
 exact zG ds r ai gg jb b5 cF cq jc
theorem hi (s : au) : views s [] = some [] ∧ (∀ d ds, views s (d :: ds) = (match view s d, views s ds with | some a, some b => some (a :: b) | _, _ => none)) ∧
  (∀ k n, view s (.int k n) = some (.int k n)) ∧ (∀ b, view s (.bool b) = some (.bool b)) ∧ (∀ x, view s (.str x) = some (.str x)) ∧ (∀ x, view s (.slice x) = some (.slice x)) ∧ (∀ x, view s (.ref x) = some (.ref x)) ∧
  view s .bg = some .bg ∧ view s .dC = some .dC ∧ (∀ aB, view s (.agg aB) = some (.agg aB)) ∧ (∀ f cap, view s (.fn f cap) = (views s cap).map (.fn f)) := by
 refine ⟨rfl, fun d ds => ?_, fun _ _ => rfl, fun _ => rfl, fun _ => rfl, fun _ => rfl, fun _ => rfl, rfl, rfl, fun _ => rfl, fun _ _ => by simp only [view]⟩
 simp only [views]; rfl
theorem cp {α : Type} {u e : α → I} (h : ∀ x, (u x).share = e x) (xs : List α) : I.shares (xs.map u) = xs.map e := by
 rw [I.q8]; simp [h]
theorem kI {α : Type} {u : α → I} (h : ∀ x, (u x).cW = true) (xs : List α) : I.hJ (xs.map u) = true := by
 induction xs with
 | nil => rfl
 | cons x xs ih => simp only [List.map_cons, I.hJ, h, ih, Bool.and_self]
def qu (s : au) (H : List Nat) : List (Nat × I) → Prop
 | [] => True
 | p :: l => (p.2 = s p.1 ∨ ((s p.1).tree = true ∧ fe (s p.1) p.2 ∧ p.1 ∉ H)) ∧ qu s H l
theorem n3 {ed : List (Nat × I)} (H : List Nat) (mH : I.d_ (ed.map (·.2)) = H) (h : qu s H ed) : rM s ed := by
 have key : ∀ (hR : List (Nat × I)), qu s H hR → ∀ p ∈ hR, p.2 = s p.1 ∨ ((s p.1).tree = true ∧ fe (s p.1) p.2 ∧ p.1 ∉ H) := by
  intro hR
  induction hR with
  | nil => intro _ p ax; cases ax
  | cons a hR ih =>
    intro h p ax
    rcases List.mem_cons.1 ax with rfl | ax
    ·exact h.1
    ·exact ih h.2 p ax
 have ah : ∀ (hR : List (Nat × I)), ∀ cA ∈ hR, ∀ u ∈ cA.2.ah, u ∈ I.d_ (hR.map (·.2)) := by
  intro hR
  induction hR with
  | nil => intro p ax; cases ax
  | cons a hR ih =>
    intro p ax u hu
    simp only [List.map_cons, I.d_, List.mem_append]
    rcases List.mem_cons.1 ax with rfl | ax
    ·exact .inl hu
    ·exact .inr (ih p ax u hu)
 intro p ax
 rcases key _ h p ax with ai | ⟨ai, aj, aP⟩
 ·exact .inl ai
 ·refine .inr ⟨ai, aj, fun cA eQ => .inl fun hm => aP ?_⟩
  rw [← mH]; exact ah ed cA eQ _ hm
theorem n4 {H : List Nat} : qu s H [] := trivial
theorem lk {H : List Nat} {t : Nat} {d : I} {ed : List (Nat × I)} (h : d = s t) (hl : qu s H ed) : qu s H ((t, d) :: ed) := ⟨.inl h, hl⟩
theorem n5 {H : List Nat} {t : Nat} {d bE : I} {ed : List (Nat × I)} (e : s t = d) (bh : d.tree = true) (al : fe d bE) (mH : t ∉ H) (hl : qu s H ed) : qu s H ((t, bE) :: ed) := ⟨.inr ⟨by rw [e]; exact bh, by rw [e]; exact al, mH⟩, hl⟩
theorem I5 {a b : I} (h : fe a b) : ∀ n, jE (List.replicate n a) (List.replicate n b)
 | 0 => .nil
 | n + 1 => by simp only [List.replicate_succ]; exact .cons h (I5 h n)
theorem zH {α : Type} {sz : Nat} {u : α → I} {z : α} {a : I} (h : fe a (u z)) (n : Nat) : fe (.aw sz (List.replicate n a)) (.aw sz ((List.replicate n z).map u)) := by
 rw [List.map_replicate]; exact .aw (I5 h n)
end
theorem I6 {C : cn} {A B : TypeId} {dd : IntKind} (iN : (C.T A).ok = true) (hs : (C.T B).k = .int dd) : ∀ s k n, fW C s A B (.int k n) = some (.int dd (dd.wrap n)) := fun s k n => Q7 C s A B k dd n iN hs
def I7 : Option I → Option I
 | some (.aw 1 xs) => (bytesOf xs).map .str
 | _ => none
theorem I8 {C : cn} {A B e : TypeId} (iN : (C.T A).k = .slice e) (hs : (C.T B).k = .str) (he : (C.T e).k = .int .u8) :
  (∀ s xs, fW C s A B (.slice xs) = (bytesOf xs).map .str) ∧ (∀ s, fW C s A B .bg = some (.str [])) ∧ (∀ s x q, fW C s A B (.h x q) = I7 (I.sub q (s x))) := by
 have vU : (C.T A).ok = true := by simp [g4.ok, iN]
 refine ⟨fun s xs => ?_, fun s => ?_, fun s x q => ?_⟩
 ·simp only [fW, vU, iN, hs, he, if_true]
 ·simp only [fW, vU, iN, hs, he, if_true]
 ·simp only [fW, vU, iN, hs, he, if_true]
  rfl
theorem I9 (xs : List I) : I7 (some (.aw 1 xs)) = (bytesOf xs).map .str := rfl
theorem I_ (c : UInt8) (r : List I) : bytesOf (kh c :: r) = (bytesOf r).map (c :: ·) := by
 have := c.toNat_lt
 simp only [kh, bytesOf]
 rw [if_pos (by omega)]
 simp
theorem Ja : bytesOf [] = some [] ∧ (∀ l : List UInt8, bytesOf (l.map kh) = some l) ∧ (∀ (c : UInt8) r, bytesOf (.int .u8 (c.toNat : Int) :: r) = (bytesOf r).map (c :: ·)) ∧
  (∀ m r, bytesOf (.int .u8 (IntKind.u8.wrap m) :: r) = (bytesOf r).map (pq m :: ·)) :=
 ⟨rfl, Og, fun c r => I_ c r, fun m r => by rw [← IV]; exact I_ _ r⟩
theorem Q_ {k : IntKind} {b : Int} (h : b ≠ 0) : ∀ a, iM .quo k a k b = some (.int k (k.wrap (a.tdiv b))) := fun _ => Q4 h
theorem Jb {k : IntKind} {b : Int} (h : b ≠ 0) : ∀ a, iM .rem k a k b = some (.int k (a.tmod b)) := fun _ => Q5 h
theorem nn {α : Type} {e : α → I} {n : Nat} (h : ∀ x, (e x).wd = n) : ∀ xs : List α, (∀ d ∈ xs.map e, d.wd = n) = True := Q6 h
theorem all_cons {P : I → Prop} (d : I) (ds : List I) : (∀ x ∈ d :: ds, P x) = (P d ∧ ∀ x ∈ ds, P x) := by simp
theorem all_nil {P : I → Prop} : (∀ x ∈ ([] : List I), P x) = True := by simp
def Jc (a b : List UInt8) : Option Unit → Option I
 | some _ => some (.str (a ++ b))
 | none => none
theorem zI (a b : List UInt8) : mB .add a b = Jc a b (oJ (a.length + b.length)) := by
 simp only [mB, oJ]; split <;> rfl
theorem zJ (a b : List UInt8) (u : Unit) : Jc a b (some u) = some (.str (a ++ b)) := rfl
theorem Jd : (∀ l : List Nat, [] ++ l = l) ∧ (∀ a (l m : List Nat), (a :: l) ++ m = a :: (l ++ m)) := ⟨fun _ => rfl, fun _ _ _ => rfl⟩
def Je (C : cn) (e bN : TypeId) : Bool := (C.T e).ok && ((C.T e).zero.wd == (C.T e).sz) && (flat (C.T e).zero).isSome && y8 C e bN
def zK (C : cn) (e : TypeId) (xs : List I) : Option (List I × au) → Option (I × au)
 | some (c4, s2) => if (∀ d ∈ c4, d.wd = (C.T e).sz) ∧ (room (C.T e).bytes (xs.length + c4.length)).isSome = true then some (.aw (C.T e).sz (xs ++ c4), s2) else none
 | none => none
def Et (C : cn) (e : TypeId) (y : I) (o : Option Nat) : Option (I × au) → Option (I × au)
 | some (.aw sz xs, s1) => if sz = (C.T e).sz then zK C e xs (kY s1 (kg o y)) else none
 | _ => none
theorem Ra (b n : Nat) : (room b n).isSome = true ↔ n * b ≤ 140737488355328 ∧ n ≤ 9223372036854775807 := by unfold room; split <;> simp_all
theorem qv {C : cn} {T bN e : TypeId} (k_ : (C.T T).k = .slice e) (gd : Je C e bN = true) : ∀ s x y, lD C s T bN x y = Et C e y x.owner (oU C e s x) := by
 intro s x y
 simp only [Je, Bool.and_eq_true, beq_iff_eq] at gd
 rw [DE, k_]
 simp only
 rw [if_pos ⟨gd.1.1.1, gd.1.1.2, gd.1.2, gd.2⟩]
 generalize x.owner = o
 cases oU C e s x with
 | none => rfl
 | some p =>
   obtain ⟨d, s1⟩ := p
   cases d <;> first
    | rfl
    | (simp only [Et]
       split
       ·rename_i h; subst h
        generalize kY s1 (kg o y) = z
        cases z with
        | none => rfl
        | some p => simp only [zK, Ra]
       ·rfl)
def Jf : Option (I × au) → Option (List I × au)
 | some (.aw _ c4, s2) => some (c4, s2)
 | _ => none
theorem qw (s : au) : kY s .bg = some ([], s) ∧ (∀ c4, kY s (.slice c4) = some (c4, s)) ∧ (∀ l, kY s (.str l) = some (l.map kh, s)) ∧
  (∀ a q, kY s (.h a q) = Jf (cT s (.h a q))) ∧ (∀ n c4, Jf (some (.aw n c4, s)) = some (c4, s)) :=
 ⟨rfl, fun _ => rfl, fun _ => rfl, fun _ _ => by simp only [kY]; rfl, fun _ _ => rfl⟩
theorem qx (C : cn) (e : TypeId) : (∀ s, oU C e s .bg = some (.aw (C.T e).sz [], s)) ∧ (∀ s a q, oU C e s (.h a q) = cT s (.h a q)) ∧
  (∀ y o sz xs s1, Et C e y o (some (.aw sz xs, s1)) = if sz = (C.T e).sz then zK C e xs (kY s1 (kg o y)) else none) ∧
  (∀ xs c4 s2, zK C e xs (some (c4, s2)) = if (∀ d ∈ c4, d.wd = (C.T e).sz) ∧ (room (C.T e).bytes (xs.length + c4.length)).isSome = true then some (.aw (C.T e).sz (xs ++ c4), s2) else none) :=
 ⟨fun _ => rfl, fun _ _ _ => rfl, fun _ _ _ _ _ => rfl, fun _ _ _ => rfl⟩
theorem qy : (∀ d, kg none d = d) ∧ (∀ x d, kg (some x) d = cc x d) ∧ (∀ x q, I.owner (.h x q) = some x) ∧ I.owner .bg = none :=
 ⟨fun _ => rfl, fun _ _ => rfl, fun _ _ => rfl, rfl⟩
def Jg (s : au) (x : Nat) (q : List Nat) : Option I → Option (I × au)
 | some d => if d.plain = true then none else some (d, dr (iJ x s) x (I.put q d.dh (s x)))
 | none => none
theorem Jh (s : au) (x : Nat) (q : List Nat) : cT s (.h x q) = Jg s x q (I.sub q (s x)) := by
 simp only [cT]; cases I.sub q (s x) <;> rfl
theorem Ji (s : au) : (∀ x q d, Jg s x q (some d) = if d.plain = true then none else some (d, dr (iJ x s) x (I.put q d.dh (s x)))) ∧ (∀ k n, cT s (.int k n) = some (.int k n, s)) ∧ (∀ b, cT s (.bool b) = some (.bool b, s)) ∧ (∀ x, cT s (.str x) = some (.str x, s)) ∧
  (∀ x, cT s (.slice x) = some (.slice x, s)) ∧ (∀ x, cT s (.ref x) = some (.ref x, s)) ∧ (∀ x, cT s (.agg x) = some (.agg x, s)) ∧ cT s .bg = some (.bg, s) ∧ cT s .dC = some (.dC, s) :=
 ⟨fun _ _ _ => rfl, fun _ _ => rfl, fun _ => rfl, fun _ => rfl, fun _ => rfl, fun _ => rfl, fun _ => rfl, rfl, rfl⟩
theorem Jj (l : List (Nat × I)) (t : Nat) (d : I) : dr (aa l) t d = aa ((t, d) :: l) := kH l t d
theorem Jk : (∀ n x, I.dh (.aw n x) = .hole) ∧ (∀ x, I.dh (.a8 x) = .hole) ∧ (∀ aB, I.dh (.agg aB) = .agg (I.kP aB)) ∧ (∀ aB, I.dh (.tuple aB) = .tuple (I.kP aB)) ∧ I.kP [] = [] ∧ (∀ d ds, I.kP (d :: ds) = d.dh :: I.kP ds) ∧
  (∀ k n, I.dh (.int k n) = .int k n) ∧ (∀ b, I.dh (.bool b) = .bool b) ∧ (∀ x, I.dh (.str x) = .str x) ∧ (∀ x, I.dh (.slice x) = .slice x) ∧ (∀ x, I.dh (.ref x) = .ref x) ∧ I.dh .bg = .bg ∧ I.dh .dC = .dC ∧ I.dh .hole = .hole := by
 simp [I.dh, I.kP]
def rX : Option I → Option I
 | some d => (match d with | .tuple _ => none | d => if d.plain = true then none else some d.share)
 | none => none
def rY : Option I → Option I
 | some d => (match d with | .tuple _ => none | d => some (.ref d.share))
 | none => none
theorem hj (s : au) (x : Nat) (q : List Nat) : view s (.h x q) = rX (I.sub q (s x)) ∧ view s (.ax x q) = (if I.fI q (s x) = true then rY (I.sub q (s x)) else none) := by
 constructor
 ·simp only [view]; rfl
 ·simp only [view]; rfl
theorem hk : (∀ n xs, rX (some (.aw n xs)) = some (.slice (I.shares xs))) ∧ (∀ d, rX (some (.a8 d)) = some (.ref d.share)) ∧ (∀ aB, rX (some (.agg aB)) = if I.dI aB = true then none else some (.agg (I.shares aB))) ∧
  (∀ aB, rY (some (.agg aB)) = some (.ref (.agg (I.shares aB)))) ∧ (∀ k n, rY (some (.int k n)) = some (.ref (.int k n))) ∧ (∀ x, rY (some (.str x)) = some (.ref (.str x))) :=
 ⟨fun _ _ => by simp [rX, I.plain, I.share], fun _ => by simp [rX, I.plain, I.share], fun aB => by cases h : I.dI aB <;> simp [rX, I.plain, I.share, h], fun _ => by simp [rY, I.share], fun _ _ => by simp [rY, I.share], fun _ => by simp [rY, I.share]⟩
theorem du : (∀ n xs, I.share (.aw n xs) = .slice (I.shares xs)) ∧ (∀ d, I.share (.a8 d) = .ref d.share) ∧ (∀ xs, I.share (.slice xs) = .slice (I.shares xs)) ∧ (∀ d, I.share (.ref d) = .ref d.share) ∧ (∀ aB, I.share (.agg aB) = .agg (I.shares aB)) ∧ (∀ aB, I.share (.tuple aB) = .tuple (I.shares aB)) ∧
  (∀ k n, I.share (.int k n) = .int k n) ∧ (∀ b, I.share (.bool b) = .bool b) ∧ (∀ x, I.share (.str x) = .str x) ∧ I.share .bg = .bg ∧ I.share .dC = .dC ∧ I.shares [] = [] ∧ (∀ d ds, I.shares (d :: ds) = d.share :: I.shares ds) := by
 simp [I.share, I.shares]
def pH (sz : Nat) : Option (List I × au) → Option (I × au)
 | some (ds, s1) => some (.aw sz ds, s1)
 | none => none
theorem qz {C : cn} {T e n sz : Nat} {e9 : List I} (k_ : (C.T T).k = .slice e) (e3 : (C.T e).sz = sz) (ca : List.replicate n (C.T e).zero = e9)
  (gd : ((C.T e).ok && ((C.T e).zero.wd == sz) && (flat (C.T e).zero).isSome && (sz != 0) && decide (n * sz ≤ 16777216)) = true) : ∀ s ps, eh C s T n ps = pH sz (eE (fun k => some (k * sz, sz)) s e9 [] ps) := by
 intro s ps
 subst e3
 simp only [Bool.and_eq_true, beq_iff_eq, bne_iff_ne, decide_eq_true_eq] at gd
 obtain ⟨⟨⟨⟨ai, aj⟩, aP⟩, bb⟩, b5⟩ := gd
 unfold eh
 rw [k_]
 simp only
 rw [if_pos ⟨ai, aj, aP, bb, b5⟩, ca]
 cases eE (fun k => some (k * (C.T e).sz, (C.T e).sz)) s e9 [] ps <;> rfl
def pI (place : Nat → Option (Nat × Nat)) (k : Nat) (e9 : List I) (os : List (Option Nat)) (r : List (Nat × I)) (o : Option Nat) : Option (Nat × Nat) → Option I → Option (I × au) → Option (List I × au)
 | some (off, n), some z, some (d, s1) => (match d with
   | .tuple _ => none
   | d => if d.wd = n ∧ z.wd = n ∧ I.ev (e9.take k) = off then eE place s1 (e9.set k d) (os ++ [o]) r else none)
 | _, _, _ => none
theorem qA (place : Nat → Option (Nat × Nat)) (s : au) (e9 : List I) (os : List (Option Nat)) : eE place s e9 os [] = some (e9, s) ∧
  (∀ k a r, eE place s e9 os ((k, a) :: r) = pI place k e9 os r (kC os a).owner (place k) e9[k]? (cT s (kC os a))) := by
 refine ⟨rfl, fun k a r => ?_⟩
 simp only [eE]
 cases cT s (kC os a) with
 | none => cases place k <;> cases e9[k]? <;> rfl
 | some p =>
   obtain ⟨d, s1⟩ := p
   cases place k with
   | none => cases e9[k]? <;> rfl
   | some q => cases e9[k]? <;> (cases d <;> rfl)
theorem qB : (∀ a, kC [] a = a) ∧ (∀ o os a, kC (o :: os) a = kC os (kg o a)) := ⟨fun _ => rfl, fun _ _ _ => rfl⟩
theorem ep : (∀ k n, I.owner (.int k n) = none) ∧ (∀ b, I.owner (.bool b) = none) ∧ (∀ x, I.owner (.str x) = none) ∧ (∀ x, I.owner (.slice x) = none) ∧ (∀ x, I.owner (.ref x) = none) ∧ (∀ x, I.owner (.agg x) = none) ∧ I.owner .dC = none ∧ I.owner .bg = none ∧ (∀ x q, I.owner (.h x q) = some x) :=
 ⟨fun _ _ => rfl, fun _ => rfl, fun _ => rfl, fun _ => rfl, fun _ => rfl, fun _ => rfl, rfl, rfl, fun _ _ => rfl⟩
end Go.dg
