/- Part of a proof that a law returns true for every input. No condition. -/
import Derived.Test.YtobljppjkklojaaFwE
import Derived.Orders
import Derived.KernelRfl
import Derived.Test.YtobljppjkklojaaFwA
namespace Go.cM
section
variable {C : bN} {w0 w : World} {F0 X : Nat → Prop} {n : Fr} {ρ : Nat → Value} {s s1 : ag} {a : Act} {av : j} {Q : Exit → Act → World → Prop}
def cq.un (o : cq) : cq := ⟨o.dst, o.bd.base, o.guard⟩
theorem xY {ops : Array Oper} : ∀ {os : List Oper} {rs : List cq}, mF n ops os = some rs → os.length = rs.length ∧ ∀ (i : Nat) (o : Oper), os[i]? = some o → ∃ r, rs[i]? = some r ∧ mE n ops o = some r := by
 intro os
 induction os with
 | nil => intro rs h; simp only [mF, Option.some.injEq] at h; subst h; exact ⟨rfl, fun i o h => by simp at h⟩
 | cons o os ih =>
   intro rs h
   simp only [mF] at h
   split at h
   ·rename_i r aad aa ab
    simp only [Option.some.injEq] at h; subst h
    obtain ⟨b9, cj⟩ := ih ab
    refine ⟨by simp [b9], fun i kG bP => ?_⟩
    cases i with
    | zero => simp at bP; subst bP; exact ⟨r, rfl, aa⟩
    | succ i => simpa using cj i kG (by simpa using bP)
   ·cases h
theorem xZ {o : Oper} {y : Nat → Option Bool} (h : o.guard = none) : Region.wanted o y = true := by simp [Region.wanted, h]
theorem IB (h : Rel w0 F0 X n ρ s a w) {ops : Array Oper} {ar t : Nat} (cc : (ops[ar]?).bind (·.dst) = some t) :
  (∀ b, s t = .bool b → yielded ops a.tmps ar = some b) ∧ (s t = .tuple [] → yielded ops a.tmps ar = none) := by
 obtain ⟨af, U, bL, F, S, aO⟩ := h
 have hv := aO.c7 t
 refine ⟨fun b J => ?_, fun J => ?_⟩
 ·rw [J] at hv
  have aG := oA hv
  simp only [yielded, cc, Option.bind_some]
  rw [Array.getD_eq_getD_getElem?] at aG
  cases bH : a.tmps[t]? with
  | none => rw [bH] at aG; simp [undef] at aG
  | some v => rw [bH] at aG; simp at aG; subst aG; rfl
 ·rw [J] at hv
  obtain ⟨⟨arr, aa, ab⟩, _⟩ := (aF.cr (d := .tuple []) rfl).1 hv
  simp only [yielded, cc, Option.bind_some]
  rw [Array.getD_eq_getD_getElem?] at aa
  cases bH : a.tmps[t]? with
  | none => rfl
  | some v => rw [bH] at aa; simp at aa; subst aa; rfl
theorem x0 (bm : C.Ok) {ops : Array Oper} {ros : List cq} {l2 : List Nat} {K : ag → Prop} (bh : ∀ ak cf aB, K ak → Rel w0 F0 X n ρ ak cf aB → wpOps C.P ops Q l2 cf aB) :
  ∀ (l : List Nat), (∀ i ∈ l, (ops[i]? = none → ros[i]? = none) ∧ ∀ o, ops[i]? = some o → ∃ r, ros[i]? = some r ∧ mE n ops o = some r.un) →
  ∀ (s : ag) (a : Act) (w : World), h8 C ros s l K → Rel w0 F0 X n ρ s a w → wpOps C.P ops Q (l ++ l2) a w := by
 intro l
 induction l with
 | nil => intro _ s a w h aO; exact bh s a w h aO
 | cons i l ih =>
   intro nJ s a w h aO
   replace ih := ih fun i az => nJ i (List.mem_cons_of_mem _ az)
   rw [List.cons_append]
   simp only [wpOps]
   cases bP : ops[i]? with
   | none =>
     simp only [h8, (nJ i (by simp)).1 bP] at h
     exact ih s a w h aO
   | some o =>
     obtain ⟨r, aa, ab⟩ := (nJ i (by simp)).2 o bP
     simp only [h8, aa] at h
     show (if Region.wanted o (yielded ops a.tmps) = true then o.wp C.P a w (wpOps C.P ops Q (l ++ l2)) Q ∨ (o.asks C.P a w ∧ LetsOut Q) else wpOps C.P ops Q (l ++ l2) (a.put o.dst undef) w)
     simp only [mE] at ab
     split at ab
     ·rename_i uv
      split at ab
      ·rename_i g bH
       obtain ⟨rd, bd, rg⟩ := r
       simp only [cq.un, Option.some.injEq, cq.mk.injEq] at ab
       obtain ⟨rfl, cb, rfl⟩ := ab
       simp only [jA] at h
       have run : ∀ (cK : ag → Prop), (∀ ak, cK ak → h8 C ros ak l K) → lv C s bd (fun av s1 => cK (fin s1 o.dst av)) → o.wp C.P a w (wpOps C.P ops Q (l ++ l2)) Q :=
        fun cK iM hw => Iz bm aO cb uv hw (fun ak cf aB aw dV => ih ak cf aB (iM ak aw) dV)
       cases p7 : o.guard with
       | none =>
         rw [p7] at bH
         simp only [r9, Option.some.injEq] at bH; subst bH
         simp only at h
         rw [if_pos (xZ p7)]
         exact .inl (run _ (fun _ h => h) h)
       | some x1 =>
         obtain ⟨ar, b⟩ := x1
         rw [p7] at bH
         simp only [r9] at bH
         split at bH
         ·rename_i t aP
          simp only [Option.some.injEq] at bH; subst bH
          simp only at h
          obtain ⟨gk, hT⟩ := IB aO aP
          have Bo : ∀ (cK : h8 C ros (fin s o.dst (.tuple [])) l K), wpOps C.P ops Q (l ++ l2) (a.put o.dst undef) w := fun cK => ih _ _ _ cK (Rel.skip aO uv)
          split at h
          ·rename_i ew U
           have bC := gk ew U
           split at h
           ·rename_i J; subst J
            rw [if_pos (by simp [Region.wanted, p7, bC])]
            exact .inl (run _ (fun _ h => h) h)
           ·rename_i J
            rw [if_neg (by simp [Region.wanted, p7, bC, J])]
            exact Bo h
          ·rename_i U
           have bC := hT U
           rw [if_neg (by simp [Region.wanted, p7, bC])]
           exact Bo h
          ·exact h.elim
         ·cases bH
      ·cases ab
     ·cases ab
theorem Bp (bm : C.Ok) {ops : Array Oper} {ros : List cq} (nK : mF n ops ops.toList = some (ros.map cq.un)) {K : ag → Prop} (bh : ∀ ak cf aB, K ak → Rel w0 F0 X n ρ ak cf aB → Q .normal cf aB) :
  ∀ (l : List Nat) (s : ag) (a : Act) (w : World), h8 C ros s l K → Rel w0 F0 X n ρ s a w → wpOps C.P ops Q l a w := by
 obtain ⟨hl, nJ⟩ := xY nK
 intro l s a w h aO
 have := x0 (Q := Q) bm (ros := ros) (ops := ops) (l2 := []) (K := K) (n := n) (ρ := ρ) (w0 := w0) (F0 := F0) (X := X) (fun ak cf aB aw dV => bh ak cf aB aw dV) l (fun i _ => ⟨fun bP => by
   rw [List.getElem?_eq_none_iff, ← List.length_map (f := cq.un), ← hl]
   have := Array.getElem?_eq_none_iff.1 bP
   simpa using this, fun o bP => by
   obtain ⟨aI, fO, ab⟩ := nJ i o (by simpa using bP)
   obtain ⟨r, aa, rfl⟩ : ∃ r, ros[i]? = some r ∧ r.un = aI := by simpa using fO
   exact ⟨r, aa, ab⟩⟩) s a w h aO
 rwa [List.append_nil] at this
theorem Rel.drawn (h : Rel w0 F0 X n ρ s a w) (k : Nat) : Rel w0 F0 X n ρ s a { w with drawn := k } := by
 obtain ⟨aa, ab, bL, F, S, aE⟩ := h
 exact ⟨aa, ab, bL, F, S, aE.grow (fun _ _ => rfl) (Nat.le_refl _) rfl rfl rfl⟩
theorem IC (bm : C.Ok) {id : Nat} {ops : Array Oper} {ros : List cq} (nK : mF n ops ops.toList = some (ros.map cq.un)) {K : ag → Prop} (bh : ∀ ak cf aB, K ak → Rel w0 F0 X n ρ ak cf aB → Q .normal cf aB)
  (h : jj C s ros K) (aO : Rel w0 F0 X n ρ s a w) : (Code.region id ops false).wp C.P Q a w := by
 refine wp_region (Bp bm nK bh _ s a w ?_ aO)
 have := Ik C K ros [] s h
 have hl := (xY nK).1
 simp only [List.nil_append, List.length_nil, Nat.add_zero, List.map_id'] at this
 rw [List.length_map] at hl
 rw [← hl] at this
 simpa using this
end
def x2 (l7 : List (List Nat)) (l : List Nat) : Prop :=
 l.Nodup ∧ (∀ i, i ∈ l ↔ i < l7.length) ∧ ∀ u i v, l = u ++ i :: v → ∀ e ∈ (l7[i]?).getD [], e ∈ u
def lx (ops : Array Oper) : List (List Nat) := ops.toList.map fun o => (o.after.toList.filter fun e => Region.binds .any e).map (·.on)
def sc (l7 : List (List Nat)) : Bool := l7.zipIdx.all fun p => p.1.all fun e => decide (e < p.2)
theorem ID {l7 : List (List Nat)} (h : sc l7 = true) {i : Nat} {l : List Nat} (az : l7[i]? = some l) : ∀ e ∈ l, e < i := by
 intro e he
 simp only [sc, List.all_eq_true] at h
 have := h (l, i) (by rw [List.mem_zipIdx_iff_getElem?]; exact az) e he
 simpa using this
theorem IE {ops : Array Oper} (J : sc (lx ops) = true) : ∀ (fuel t : Nat) (e3 : Array Bool), e3.size = ops.size → ((List.range ops.size).filter fun i => !e3.getD i true).length ≤ fuel →
  (Region.linearise.go .any ops fuel t e3 []).Nodup ∧ (∀ i, i ∈ Region.linearise.go .any ops fuel t e3 [] ↔ (i < ops.size ∧ e3.getD i true = false)) ∧
   ∀ u i v, Region.linearise.go .any ops fuel t e3 [] = u ++ i :: v → ∀ e ∈ ((lx ops)[i]?).getD [], e3.getD e false = true ∨ e ∈ u := by
 intro fuel
 induction fuel with
 | zero =>
   intro t e3 U hl
   have rS : ((List.range ops.size).filter fun i => !e3.getD i true) = [] := List.length_eq_zero_iff.1 (Nat.le_zero.1 hl)
   refine ⟨by simp [Region.linearise.go], fun i => ?_, fun u i v h => by simp [Region.linearise.go] at h⟩
   simp only [Region.linearise.go, List.reverse_nil, List.not_mem_nil, false_iff, not_and]
   intro az bL
   have : i ∈ ((List.range ops.size).filter fun i => !e3.getD i true) := List.mem_filter.2 ⟨List.mem_range.2 az, by rw [bL]; rfl⟩
   rw [rS] at this; cases this
 | succ fuel ih =>
   intro t e3 U hl
   have Bq : ∀ i, i ∈ Region.ready .any ops e3 ↔ (i < ops.size ∧ e3.getD i true = false ∧ ∀ e ∈ ((lx ops)[i]?).getD [], e3.getD e false = true) := by
    intro i
    simp only [Region.ready, List.mem_filter, List.mem_range, Bool.and_eq_true, Bool.not_eq_true']
    constructor
    ·rintro ⟨aa, ab, aE⟩
     refine ⟨aa, ab, ?_⟩
     rw [Array.getElem?_eq_getElem aa] at aE
     simp only [Option.map_some, Option.getD_some, Array.all_eq_true_iff_forall_mem] at aE
     simp only [lx, List.getElem?_map, Array.getElem?_toList, Array.getElem?_eq_getElem aa, Option.map_some, Option.getD_some, List.mem_map, List.mem_filter]
     rintro e ⟨x, ⟨ai, x3⟩, rfl⟩
     have := aE x (by simpa using ai)
     simpa [x3] using this
    ·rintro ⟨aa, ab, aE⟩
     refine ⟨aa, ab, ?_⟩
     rw [Array.getElem?_eq_getElem aa]
     simp only [Option.map_some, Option.getD_some, Array.all_eq_true_iff_forall_mem]
     simp only [lx, List.getElem?_map, Array.getElem?_toList, Array.getElem?_eq_getElem aa, Option.map_some, Option.getD_some, List.mem_map, List.mem_filter] at aE
     intro x ai
     cases x3 : Region.binds .any x with
     | false => simp
     | true => simpa using aE x.on ⟨x, ⟨by simpa using ai, x3⟩, rfl⟩
   have hex : (∃ i, i < ops.size ∧ e3.getD i true = false) → Region.ready .any ops e3 ≠ [] := by
    rintro ⟨i, aa, ab⟩
    have : ∃ i, (i < ops.size ∧ e3.getD i true = false) ∧ ∀ ar, ar < i → ¬ (ar < ops.size ∧ e3.getD ar true = false) := by
     induction i using Nat.strongRecOn with
     | _ i IF =>
       by_cases cc : ∃ ar, ar < i ∧ (ar < ops.size ∧ e3.getD ar true = false)
       ·obtain ⟨ar, IG, IH, II⟩ := cc
        exact IF ar IG IH II
       ·exact ⟨i, ⟨aa, ab⟩, fun ar IJ aj => cc ⟨ar, IJ, aj⟩⟩
    obtain ⟨k, ⟨b9, cj⟩, d_⟩ := this
    have : k ∈ Region.ready .any ops e3 := (Bq k).2 ⟨b9, cj, fun e he => by
     cases b1 : (lx ops)[k]? with
     | none => rw [b1] at he; simp at he
     | some l =>
       rw [b1] at he
       have dL := ID J b1 e he
       have := d_ e dL
       rw [not_and] at this
       have := this (by omega)
       have x4 : e < e3.size := by omega
       simp only [Array.getD_eq_getD_getElem?, Array.getElem?_eq_getElem x4, Option.getD_some] at this ⊢
       simpa using this⟩
    intro e; rw [e] at this; cases this
   have Br : Region.linearise.go .any ops (fuel + 1) t e3 [] = (match (Region.ready .any ops e3)[t % (Region.ready .any ops e3).length]? with
    | some i => Region.linearise.go .any ops fuel (t / (Region.ready .any ops e3).length) (e3.setIfInBounds i true) [i]
    | none => []) := rfl
   cases sd : (Region.ready .any ops e3)[t % (Region.ready .any ops e3).length]? with
   | none =>
     have rS : Region.ready .any ops e3 = [] := by
      cases aO : Region.ready .any ops e3 with
      | nil => rfl
      | cons a l =>
        rw [aO] at sd
        have := List.getElem?_eq_none_iff.1 sd
        have ab := Nat.mod_lt t (show 0 < (a :: l).length by simp)
        omega
     rw [Br, sd]
     refine ⟨by simp, fun i => ?_, fun u i v h => by simp at h⟩
     simp only [List.not_mem_nil, false_iff]
     intro az
     exact hex ⟨i, az⟩ rS
   | some i =>
     have az := (Bq i).1 (List.mem_of_getElem? sd)
     obtain ⟨x5, Bs, IK⟩ := az
     rw [Br, sd]
     simp only
     rw [linearise_go_acc]
     simp only [List.reverse_singleton, List.singleton_append]
     have nA : ∀ ar d, (e3.setIfInBounds i true).getD ar d = if ar = i then true else e3.getD ar d := by
      intro ar d
      split
      ·rename_i e; subst e
       simp [Array.getD_eq_getD_getElem?, Array.getElem?_setIfInBounds_self_of_lt (show ar < e3.size by omega)]
      ·rename_i e
       simp [Array.getD_eq_getD_getElem?, Array.getElem?_setIfInBounds_ne (fun h => e h.symm)]
     obtain ⟨aV, bo, b8⟩ := ih (t / (Region.ready .any ops e3).length) (e3.setIfInBounds i true) (by simpa using U) (by
      have dU : ((List.range ops.size).filter fun ar => !(e3.setIfInBounds i true).getD ar true) = ((List.range ops.size).filter fun i => !e3.getD i true).filter fun ar => decide (ar ≠ i) := by
       rw [List.filter_filter]
       apply List.filter_congr
       intro ar _
       rw [nA]
       by_cases e : ar = i <;> simp [e]
      rw [dU]
      have dL : (((List.range ops.size).filter fun i => !e3.getD i true).filter fun ar => decide (ar ≠ i)).length < ((List.range ops.size).filter fun i => !e3.getD i true).length := by
       rw [List.length_filter_lt_length_iff_exists]
       exact ⟨i, List.mem_filter.2 ⟨List.mem_range.2 x5, by rw [Bs]; rfl⟩, by simp⟩
      omega)
     refine ⟨?_, fun ar => ?_, ?_⟩
     ·rw [List.nodup_cons]
      refine ⟨fun hm => ?_, aV⟩
      have := ((bo i).1 hm).2
      rw [nA, if_pos rfl] at this; cases this
     ·rw [List.mem_cons, bo, nA]
      by_cases e : ar = i
      ·subst e; simp [x5, Bs]
      ·simp [e]
     ·intro u ar v h e he
      cases u with
      | nil =>
        simp only [List.nil_append, List.cons.injEq] at h
        obtain ⟨rfl, rfl⟩ := h
        exact .inl (IK e he)
      | cons uw u =>
        simp only [List.cons_append, List.cons.injEq] at h
        obtain ⟨rfl, h⟩ := h
        rcases b8 u ar v h e he with bq | bq
        ·rw [nA] at bq
         split at bq
         ·rename_i eC; subst eC; exact .inr (by simp)
         ·exact .inl bq
        ·exact .inr (by simp [bq])
theorem IL {ops : Array Oper} (J : sc (lx ops) = true) (t : Nat) : x2 (lx ops) (Region.linearise .any ops t) := by
 have Bt : ∀ i d, i < ops.size → (Array.replicate ops.size false).getD i d = false := by
  intro i d az
  simp [Array.getD_eq_getD_getElem?, az]
 obtain ⟨aV, bo, b8⟩ := IE J ops.size t (Array.replicate ops.size false) (by simp) (by
  have := List.length_filter_le (fun i => !(Array.replicate ops.size false).getD i true) (List.range ops.size)
  simpa using this)
 have hlen : (lx ops).length = ops.size := by simp [lx]
 refine ⟨aV, fun i => ?_, fun u i v h e he => ?_⟩
 ·rw [hlen]
  rw [show Region.linearise .any ops t = Region.linearise.go .any ops ops.size t (Array.replicate ops.size false) [] from rfl, bo]
  exact ⟨fun h => h.1, fun h => ⟨h, Bt i true h⟩⟩
 ·rcases b8 u i v h e he with bq | bq
  ·exfalso
   by_cases Bu : e < ops.size
   ·rw [Bt e false Bu] at bq; cases bq
   ·simp [Array.getD_eq_getD_getElem?, Bu] at bq
  ·exact bq
def I : List (Nat × j) → ag
 | [], _ => .hole
 | (u, d) :: l, t => if t = u then d else I l t
mutual
inductive dS : j → j → Prop
 | refl (d : j) : dS d d
 | j1 (sz : Nat) : dS .a_ (.ay sz [])
 | p8 : dS .a_ (.slice [])
 | any (b : Bool) : dS (.bool b) .dO
 | share (d : j) : d.tree = true → (∀ vs, d ≠ .tuple vs) → dS d d.share
 | agg {ds es : List j} : iy ds es → dS (.agg ds) (.agg es)
 | bD {d e : j} : dS d e → dS (.bD d) (.bD e)
 | ay {sz : Nat} {ds es : List j} : iy ds es → dS (.ay sz ds) (.ay sz es)
 | tuple {ds es : List j} : iy ds es → dS (.tuple ds) (.tuple es)
 | ref {d e : j} : dS d e → dS (.ref d) (.ref e)
 | trans {d e f : j} : dS d e → dS e f → dS d f
inductive iy : List j → List j → Prop
 | nil : iy [] []
 | cons {d e : j} {ds es : List j} : dS d e → iy ds es → iy (d :: ds) (e :: es)
end
mutual
theorem dS.wd : ∀ {d e : j}, dS d e → e.wd = d.wd
 | _, _, .refl _ => rfl
 | _, _, .j1 _ => rfl
 | _, _, .p8 => rfl
 | _, _, .any _ => rfl
 | _, _, .share d _ _ => j.tB d
 | _, _, .agg h => by simp only [j.wd]; exact iy.wd h
 | _, _, .bD _ => rfl
 | _, _, .ay _ => rfl
 | _, _, .tuple h => by simp only [j.wd]; exact iy.wd h
 | _, _, .ref _ => rfl
 | _, _, .trans h k => (dS.wd k).trans (dS.wd h)
theorem iy.wd : ∀ {ds es : List j}, iy ds es → j.dm es = j.dm ds
 | _, _, .nil => rfl
 | _, _, .cons h U => by simp only [j.dm]; rw [dS.wd h, iy.wd U]
end
theorem iy.len {ds es : List j} (h : iy ds es) : es.length = ds.length := by
 induction ds generalizing es with
 | nil => cases h; rfl
 | cons d ds ih => cases h with | cons h U => simp [ih U]
theorem iy.all {sz : Nat} {ds es : List j} (h : iy ds es) (af : ∀ d ∈ ds, d.wd = sz) : ∀ d ∈ es, d.wd = sz := by
 induction ds generalizing es with
 | nil => cases h; intro d af; cases af
 | cons d ds ih =>
   cases h with
   | cons h U =>
     intro x ai
     rcases List.mem_cons.1 ai with rfl | ai
     ·rw [h.wd]; exact af d (by simp)
     ·exact ih U (fun d hm => af d (by simp [hm])) x ai
section
variable {w0 w : World} {F0 X F : Nat → Prop} {S : Nat → Nat → Prop} {s ak : ag} {au : Nat → Value}
def IM (w : World) (F : Nat → Prop) (_d e : j) (cs : List Value) (S : Nat → Prop) : Prop :=
 ∃ gl gm : Nat → Prop, (∀ b, gl b → S b) ∧ (∀ b, gm b → S b) ∧ (∀ b, gm b → ¬ gl b) ∧ ∀ bA, (∀ b, F b ∨ gl b → bA b) → aq w bA e cs gm
mutual
theorem aq.wider : ∀ {d e : j}, dS d e → ∀ {F : Nat → Prop} {cs : List Value} {S : Nat → Prop}, aq w F d cs S → IM w F d e cs S
 | _, _, .refl _, F, cs, S, h => ⟨fun _ => False, S, fun _ h => h.elim, fun _ h => h, fun _ _ h => h, fun bA bg => aq.mono (fun b J => bg b (.inl J)) _ _ _ _ (fun _ h => h) h⟩
 | .a_, _, .j1 sz, F, cs, S, h => ⟨fun _ => False, S, fun _ h => h.elim, fun _ h => h, fun _ _ h => h, fun bA bg => by simp only [aq] at h ⊢; exact .inl ⟨trivial, _, h⟩⟩
 | .a_, _, .p8, F, cs, S, h => ⟨fun _ => False, S, fun _ h => h.elim, fun _ h => h, fun _ _ h => h, fun bA bg => by simp only [aq] at h ⊢; exact .inl ⟨trivial, none, 0, h, Nat.zero_le _, fun _ => rfl⟩⟩
 | .bool _, _, .any b, F, cs, S, h => ⟨fun _ => False, S, fun _ h => h.elim, fun _ h => h, fun _ _ h => h, fun bA bg => by simp only [aq] at h ⊢; exact ⟨b, h⟩⟩
 | _, _, .share d _ _, F, cs, S, h => ⟨S, fun _ => False, fun _ h => h, fun _ h => h.elim, fun _ h => h.elim, fun bA bg => aq.shared (fun b J => bg b (.inl J)) d cs S (fun b J => bg b (.inr J)) h⟩
 | _, _, .agg hI, F, cs, S, h => by
   rw [aq] at h
   obtain ⟨gl, gm, aa, ab, aE, aZ⟩ := aU.wider hI h
   exact ⟨gl, gm, aa, ab, aE, fun bA bg => by rw [aq]; exact aZ bA bg⟩
 | _, _, .bD af, F, cs, S, h => by
   rw [aq] at h
   obtain ⟨b, cur, ty, fr, aH, b9, cj, d_, dv, e1, dY, iw⟩ := h
   obtain ⟨gl, gm, aa, ab, aE, aZ⟩ := aq.wider af e1
   refine ⟨gl, fun c => c = b ∨ gm c, fun c aj => dY c (aa c aj), ?_, ?_, fun bA bg => ?_⟩
   ·rintro c (rfl | aj)
    ·exact cj
    ·exact dY c (ab c aj)
   ·rintro c (rfl | aj) bL
    ·exact iw (aa _ bL)
    ·exact aE c aj bL
   ·rw [aq]
    exact ⟨b, cur, ty, fr, gm, b9, .inl rfl, d_, dv, aZ bA bg, fun c aj => .inr aj, fun aj => iw (ab _ aj)⟩
 | .ay sz ds, .ay _ es, .ay hI, F, cs, S, h => by
   rw [aq] at h
   have hl := hI.len
   rcases h with ⟨aa, ab⟩ | ⟨b, cap, cur, ty, fr, aH, b9, cj, d_, dv, e1, dY, iw, ek, jW, nB, Bv⟩
   ·refine ⟨fun _ => False, S, fun _ h => h.elim, fun _ h => h, fun _ _ h => h, fun bA _ => ?_⟩
    rw [aq]
    subst aa
    exact .inl ⟨List.length_eq_zero_iff.1 (by simpa using hl), ab⟩
   ·obtain ⟨gl, gm, aa, ab, aE, aZ⟩ := aU.wider hI jW
    refine ⟨gl, fun c => c = b ∨ gm c, fun c aj => nB c (aa c aj), ?_, ?_, fun bA bg => ?_⟩
    ·rintro c (rfl | aj)
     ·exact cj
     ·exact nB c (ab c aj)
    ·rintro c (rfl | aj) bL
     ·exact Bv (aa _ bL)
     ·exact aE c aj bL
    ·rw [aq]
     refine .inr ⟨b, cap, cur, ty, fr, gm, by rw [hl]; exact b9, .inl rfl, d_, dv, by rw [hl]; exact e1, dY, iw, hI.all ek, by rw [hl]; exact aZ bA bg, fun c aj => .inr aj, fun aj => Bv (ab _ aj)⟩
 | _, _, .tuple hI, F, cs, S, h => by
   rw [aq] at h
   obtain ⟨gl, gm, aa, ab, aE, aZ⟩ := aU.wider hI h
   exact ⟨gl, gm, aa, ab, aE, fun bA bg => by rw [aq]; exact aZ bA bg⟩
 | _, _, .ref af, F, cs, S, h => by
   rw [aq] at h
   obtain ⟨b, o, dr, aa, ab, aE, aZ⟩ := h
   obtain ⟨gl, gm, b9, cj, d_, dv⟩ := aq.wider af aZ
   refine ⟨fun _ => False, S, fun _ h => h.elim, fun _ h => h, fun _ _ h => h, fun bA bg => ?_⟩
   rw [aq]
   exact ⟨b, o, dr, aa, bg _ (.inl ab), aE, aq.mono (fun _ h => h) _ _ _ _ (fun b J => cj b J) (dv bA fun b J => bg b (J.imp id fun h => (b9 b h).elim))⟩
 | _, _, .trans af he, F, cs, S, h => by
   obtain ⟨gl, gm, aa, ab, aE, aZ⟩ := aq.wider af h
   obtain ⟨x6, ux, b9, cj, d_, dv⟩ := aq.wider he (F := fun b => F b ∨ gl b) (aZ _ fun _ h => h)
   refine ⟨fun b => gl b ∨ x6 b, ux, ?_, fun b J => ab b (cj b J), ?_, fun bA bg => dv bA fun b J => ?_⟩
   ·rintro b (h | h)
    ·exact aa b h
    ·exact ab b (b9 b h)
   ·rintro b J (h | h)
    ·exact aE b (cj b J) h
    ·exact d_ b J h
   ·rcases J with (J | J) | J
    ·exact bg b (.inl J)
    ·exact bg b (.inr (.inl J))
    ·exact bg b (.inr (.inr J))
theorem aU.wider : ∀ {ds es : List j}, iy ds es → ∀ {F : Nat → Prop} {cs : List Value} {S : Nat → Prop}, aU w F ds cs S →
  ∃ gl gm : Nat → Prop, (∀ b, gl b → S b) ∧ (∀ b, gm b → S b) ∧ (∀ b, gm b → ¬ gl b) ∧ ∀ bA, (∀ b, F b ∨ gl b → bA b) → aU w bA es cs gm
 | _, _, .nil, F, cs, S, h => ⟨fun _ => False, fun _ => False, fun _ h => h.elim, fun _ h => h.elim, fun _ h => h.elim, fun bA bg => by rw [aU] at h ⊢; exact h⟩
 | _, _, .cons af hI, F, cs, S, h => by
   rw [aU] at h
   obtain ⟨bT, b4, bW, c6, rfl, bo, b8, dn, eg, gA⟩ := h
   obtain ⟨IP, Bw, ah, cC, a3, a4⟩ := aq.wider af bo
   obtain ⟨x6, ux, jx, hs, hS, bX⟩ := aU.wider hI b8
   refine ⟨fun b => IP b ∨ x6 b, fun b => Bw b ∨ ux b, ?_, ?_, ?_, fun bA bg => ?_⟩
   ·rintro b (h | h)
    ·exact dn b (ah b h)
    ·exact eg b (jx b h)
   ·rintro b (h | h)
    ·exact dn b (cC b h)
    ·exact eg b (hs b h)
   ·rintro b (h | h) (bq | bq)
    ·exact a3 b h bq
    ·exact gA b (cC b h) (jx b bq)
    ·exact gA b (ah b bq) (hs b h)
    ·exact hS b h bq
   ·rw [aU]
    refine ⟨bT, b4, Bw, ux, rfl, a4 bA (fun b J => bg b (J.imp id .inl)), bX bA (fun b J => bg b (J.imp id .inr)), fun b J => .inl J, fun b J => .inr J, fun b aa ab => gA b (cC b aa) (hs b ab)⟩
end
theorem dS.uy : ∀ {d e : j}, dS d e → (∀ vs, d ≠ .tuple vs) → ∀ vs, e ≠ .tuple vs
 | _, _, .refl _, h => h
 | _, _, .j1 _, _ => fun _ h => by cases h
 | _, _, .p8, _ => fun _ h => by cases h
 | _, _, .any _, _ => fun _ h => by cases h
 | _, _, .share d _ _, h => fun vs he => by cases d <;> first | (cases he; done) | exact h _ rfl
 | _, _, .agg _, _ => fun _ h => by cases h
 | _, _, .bD _, _ => fun _ h => by cases h
 | _, _, .ay _, _ => fun _ h => by cases h
 | _, _, .tuple _, h => fun _ _ => h _ rfl
 | _, _, .ref _, _ => fun _ h => by cases h
 | _, _, .trans h k, bh => dS.uy k (dS.uy h bh)
theorem dS.gW : ∀ {d e : j} {v : Value}, dS d e → (∀ vs, d ≠ .tuple vs) → cM.gW d v → cM.gW e v
 | _, _, _, .refl _, _, h => h
 | _, _, _, .j1 _, _, h => h
 | _, _, _, .p8, _, h => h
 | _, _, _, .any _, _, h => h
 | _, _, _, .share d _ bh, _, h => by cases d <;> first | exact h | exact (bh _ rfl).elim
 | _, _, _, .agg _, _, h => h
 | _, _, _, .bD _, _, h => h
 | _, _, _, .ay _, _, h => h
 | _, _, _, .tuple _, bh, _ => (bh _ rfl).elim
 | _, _, _, .ref _, _, h => h
 | _, _, _, .trans h k, bh, U => dS.gW k (dS.uy h bh) (dS.gW h bh U)
theorem iy.get : ∀ {ds es : List j}, iy ds es → ∀ (k : Nat) (e : j), es[k]? = some e → ∃ d, ds[k]? = some d ∧ dS d e
 | _, _, .nil, k, e, h => by simp at h
 | _, _, .cons af U, 0, e, h => by simp at h; subst h; exact ⟨_, rfl, af⟩
 | _, _, .cons af U, k + 1, e, h => iy.get U k e (by simpa using h)
theorem dS.dt : ∀ {d e : j} {v : Value}, dS d e → cM.dt d v → cM.dt e v
 | _, _, _, .refl _, U => U
 | _, _, _, .j1 _, U => U
 | _, _, _, .p8, U => U
 | _, _, _, .any _, U => U
 | _, _, _, .share _ _ kk, U => xK kk U
 | _, _, _, .agg _, U => U
 | _, _, _, .bD _, U => U
 | _, _, _, .ay _, U => U
 | _, _, _, .ref _, U => U
 | _, _, _, .tuple af, U => by
   obtain ⟨arr, aa, ab, aE⟩ := U
   refine ⟨arr, aa, ab.trans af.len.symm, fun k e x he ai => ?_⟩
   obtain ⟨d, aw, hw⟩ := af.get k e he
   obtain ⟨ah, cC, a3⟩ := aE k d x aw ai
   exact ⟨hw.gW cC ah, hw.uy cC, a3.trans hw.wd.symm⟩
 | _, _, _, .trans h k, U => dS.dt k (dS.dt h U)
theorem dS.tree : ∀ {d e : j}, dS d e → d.tree = true → e.tree = true
 | _, _, .refl _, af => af
 | _, _, .j1 _, _ => rfl
 | _, _, .p8, _ => rfl
 | _, _, .any _, _ => rfl
 | _, _, .share d _ _, af => by cases d <;> first | exact af | rfl
 | _, _, .agg _, _ => rfl
 | _, _, .bD _, _ => rfl
 | _, _, .ay _, _ => rfl
 | _, _, .tuple _, _ => rfl
 | _, _, .ref _, _ => rfl
 | _, _, .trans h k, af => dS.tree k (dS.tree h af)
mutual
def j.oU : j → List Nat
 | .h x q => if q.isEmpty then [] else [x]
 | .ao x _ => [x]
 | .J x _ => [x]
 | .fn _ cap => j.se cap
 | _ => []
def j.se : List j → List Nat
 | [] => []
 | d :: ds => d.oU ++ j.se ds
end
def sf (s ak : ag) (x : Nat) (D : List Nat) : Prop := ak x = s x ∨ ak x = .hole ∨ ((s x).own = true ∧ (ak x).own = true ∧ x ∉ D)
theorem sf.less {s ak : ag} {x : Nat} {D E : List Nat} (h : sf s ak x D) (x7 : ∀ u ∈ E, u ∈ D) : sf s ak x E := by
 rcases h with h | h | ⟨aa, ab, aE⟩
 ·exact .inl h
 ·exact .inr (.inl h)
 ·exact .inr (.inr ⟨aa, ab, fun ai => aE (x7 x ai)⟩)
theorem aF.keep {bA : Nat → Prop} (bg : ∀ b, F b → bA b) : ∀ n, (∀ (d : j) (v : Value) (dd : Nat → Prop), SizeOf.sizeOf d ≤ n → (∀ x ∈ d.U, sf s ak x d.oU) → aF w F s au d v dd → aF w bA ak au d v dd) ∧
  (∀ (ds : List j) (vs : List Value), SizeOf.sizeOf ds ≤ n → (∀ x ∈ j.c2 ds, sf s ak x (j.se ds)) → dC w F s au ds vs → dC w bA ak au ds vs) := by
 intro n
 induction n with
 | zero =>
   refine ⟨fun d v dd bw => ?_, fun ds vs bw => ?_⟩
   ·cases d <;> simp at bw <;> omega
   ·cases ds <;> simp at bw <;> omega
 | succ n ih =>
   refine ⟨fun d v dd bw aw h => ?_, fun ds vs bw aw h => ?_⟩
   ·cases d with
    | hole => rw [aF]; trivial
    | h x q =>
      rw [aF] at h ⊢
      intro e dU ao
      rcases aw x (by simp [j.U]) with he | he | ⟨Bx, IQ, sg⟩
      ·rw [he] at dU ⊢; exact h e dU ao
      ·rw [he] at dU
       cases q with
       | nil => simp only [j.sub, Option.some.injEq] at dU; subst dU; simp [j.plain] at ao
       | cons k q => simp [j.sub] at dU
      ·cases q with
       | nil =>
         simp only [j.sub, Option.some.injEq] at dU
         subst dU
         obtain ⟨cv, a0, fI, ga, gV⟩ := h (s x) (by simp only [j.sub]) (m8 Bx).1
         simp only [cJ, Option.some.injEq, Prod.mk.injEq, true_and] at fI
         exact ⟨ch (au x), none, by simp only [cJ], by rw [ga, ← fI.1], ((m8 IQ).2.2.2.2.2 _).2 (((m8 Bx).2.2.2.2.2 _).1 gV)⟩
       | cons k q => exact (sg (by simp [j.oU])).elim
    | ao x q =>
      rw [aF] at h ⊢
      intro e dU aj
      rcases aw x (by simp [j.U]) with he | he | ⟨_, _, sg⟩
      ·rw [he] at dU aj ⊢; exact h e dU aj
      ·rw [he] at aj
       cases q <;> simp [j.ei] at aj
      ·exact (sg (by simp [j.oU])).elim
    | J x k =>
      rw [aF] at h ⊢
      intro ao
      rcases aw x (by simp [j.U]) with he | he | ⟨_, _, sg⟩
      rotate_left 2
      ·exact (sg (by simp [j.oU])).elim
      ·rw [he] at ao
       obtain ⟨b, cur, e, fr, aa, ab, aE, aZ⟩ := h ao
       exact ⟨b, cur, e, fr, aa, bg b ab, aE, aZ⟩
      ·rw [he] at ao; simp [j.plain] at ao
    | fn f cap =>
      rw [aF] at h ⊢
      obtain ⟨arr, rfl, aj⟩ := h
      exact ⟨arr, rfl, ih.2 _ _ (by simp at bw; omega) (by simpa [j.U, j.oU] using aw) aj⟩
    | _ =>
      have bq := (aF.cr rfl).1 h
      exact (aF.cr rfl).2 ⟨bq.1, aq.mono bg _ _ _ _ (fun _ h => h) bq.2⟩
   ·cases ds with
    | nil => rw [dC] at h ⊢; exact h
    | cons d ds =>
      rw [dC] at h ⊢
      obtain ⟨v, iF, rfl, aa, ab⟩ := h
      simp at bw
      simp only [j.c2, List.mem_append] at aw
      exact ⟨v, iF, rfl, ih.1 _ _ _ (by omega) (fun x ai => (aw x (.inl ai)).less fun u hu => by simp [j.se, hu]) aa, ih.2 _ _ (by omega) (fun x ai => (aw x (.inr ai)).less fun u hu => by simp [j.se, hu]) ab⟩
def p9 (s : ag) (l : List (Nat × j)) : Prop :=
 ∀ p ∈ l, p.2 = s p.1 ∨ ((s p.1).tree = true ∧ dS (s p.1) p.2 ∧ ∀ b2 ∈ l, p.1 ∉ b2.2.U ∨ ((s p.1).own = true ∧ p.2.own = true ∧ p.1 ∉ b2.2.oU))
theorem Bz : ∀ (l : List (Nat × j)) (t : Nat), I l t = .hole ∨ ∃ p ∈ l, p.1 = t ∧ I l t = p.2 := by
 intro l
 induction l with
 | nil => intro t; exact .inl rfl
 | cons p l ih =>
   intro t
   obtain ⟨u, d⟩ := p
   simp only [I]
   split
   ·rename_i e; exact .inr ⟨(u, d), by simp, e.symm, rfl⟩
   ·rcases ih t with h | ⟨p, ao, h⟩
    ·exact .inl h
    ·exact .inr ⟨p, by simp [ao], h⟩
theorem bB.BA (h : bB w0 F0 X F S s au w) {l : List (Nat × j)} (hw : p9 s l) : ∃ bA aH, bB w0 F0 X bA aH (I l) au w := by
 have each : ∀ t, ∃ gl gm : Nat → Prop, (∀ b, gl b → S t b) ∧ (∀ b, gm b → S t b) ∧ (∀ b, gm b → ¬ gl b) ∧ ∀ bA, (∀ b, F b ∨ gl b → bA b) → aF w bA (I l) au (I l t) (au t) gm := by
  intro t
  rcases Bz l t with e | ⟨p, ao, rfl, e⟩
  ·exact ⟨fun _ => False, fun _ => False, fun _ h => h.elim, fun _ h => h.elim, fun _ h => h.elim, fun bA _ => by rw [e, aF]; trivial⟩
  ·rw [e]
   rcases hw p ao with aw | ⟨aP, kc, _⟩
   ·refine ⟨fun _ => False, S p.1, fun _ h => h.elim, fun _ h => h, fun _ _ h => h, fun bA bg => ?_⟩
    rw [aw]
    refine (aF.keep (fun b J => bg b (.inl J)) (SizeOf.sizeOf (s p.1))).1 _ _ _ (Nat.le_refl _) ?_ (h.c7 p.1)
    intro x ai
    rcases Bz l x with eC | ⟨b2, dj, rfl, eC⟩
    ·exact .inr (.inl eC)
    ·rcases hw b2 dj with jw | ⟨_, _, la⟩
     ·exact .inl (eC.trans jw)
     ·rcases la p ao with la | ⟨kH, l3, uk⟩
      ·exact (la (by rw [aw]; exact ai)).elim
      ·exact .inr (.inr ⟨kH, by rw [eC]; exact l3, by rw [aw] at uk; exact uk⟩)
   ·obtain ⟨aV, bo⟩ := (aF.cr aP).1 (h.c7 p.1)
    obtain ⟨gl, gm, b9, cj, d_, dv⟩ := aq.wider kc bo
    exact ⟨gl, gm, b9, cj, d_, fun bA bg => (aF.cr (kc.tree aP)).2 ⟨kc.dt aV, dv bA bg⟩⟩
 have bT := fun t => (each t).choose_spec
 let gl := fun t => (each t).choose
 have b4 := fun t => (bT t).choose_spec
 let gm := fun t => (bT t).choose
 have jk : ∀ t b, gl t b → S t b := fun t => (b4 t).1
 have bR : ∀ t b, gm t b → S t b := fun t => (b4 t).2.1
 have gg : ∀ t b, gm t b → ¬ gl t b := fun t => (b4 t).2.2.1
 have c3 := fun t => (b4 t).2.2.2
 refine ⟨fun b => F b ∨ ∃ t, gl t b, gm, fun b J => .inl (h.gb b J), ?_, ?_, fun t b J => h.dP t b (bR t b J), ?_, fun t u b cZ J hu => h.eT t u b cZ (bR t b J) (bR u b hu), fun t b J => h.dd t b (bR t b J), ?_, h.old, h.size, h.os, h.tape, h.output⟩
 ·rintro b (J | ⟨t, J⟩)
  ·exact h.gz b J
  ·exact .inr (h.dd t b (jk t b J))
 ·rintro b (J | ⟨t, J⟩)
  ·exact h.e0 b J
  ·exact h.dP t b (jk t b J)
 ·rintro t b J (bL | ⟨u, hu⟩)
  ·exact h.e7 t b (bR t b J) bL
  ·by_cases e : t = u
   ·subst e; exact gg t b J hu
   ·exact h.eT t u b e (bR t b J) (jk u b hu)
 ·intro t
  exact c3 t _ (fun b J => J.imp id fun h => ⟨t, h⟩)
end
inductive R where
 | skip
 | ad (ros : List cq) (keep : Option (List Nat))
 | hJ (ros : List cq) (l7 : List (List Nat)) (keep : Option (List Nat))
 | seq (a b : R)
 | cond (c : ax) (a b : R)
 | block (id : Nat) (b : R)
 | loop (b : R)
 | exit (id : Nat)
 | ret
 | h9 (T : (Exit → ag → Prop) → ag → Prop) (b : R)
def b0 (n : Fr) : Code → Option R
 | .skip => some .skip
 | .region _ ops false => (mF n ops ops.toList).map fun r => .ad r none
 | .region _ ops true => if sc (lx ops) = true then (mF n ops ops.toList).map fun r => .hJ r (lx ops) none else none
 | .seq a b => match b0 n a, b0 n b with
   | some a, some b => some (.seq a b)
   | _, _ => none
 | .cond c a b => match c9 c, b0 n a, b0 n b with
   | some c, some a, some b => some (.cond c a b)
   | _, _, _ => none
 | .block id b => (b0 n b).map (.block id)
 | .loop b => (b0 n b).map .loop
 | .exit id => some (.exit id)
 | .ret => some .ret
 | _ => none
def R.jl : R → R
 | .ad ros _ => .ad ros none
 | .hJ ros fu _ => .hJ ros fu none
 | .seq a b => .seq a.jl b.jl
 | .cond c a b => .cond c a.jl b.jl
 | .block id b => .block id b.jl
 | .loop b => .loop b.jl
 | .h9 T b => .h9 T b.jl
 | c => c
def R.strip : R → R
 | .ad ros _ => .ad (ros.map cq.un) none
 | .hJ ros fu _ => .hJ (ros.map cq.un) fu none
 | .seq a b => .seq a.strip b.strip
 | .cond c a b => .cond c a.strip b.strip
 | .block id b => .block id b.strip
 | .loop b => .loop b.strip
 | .h9 _ b => b.strip
 | c => c
theorem R.BB : ∀ c : R, c.jl.strip = c.strip := by
 intro c
 induction c with
 | seq a b h_ ia => simp only [R.jl, R.strip, h_, ia]
 | cond c a b h_ ia => simp only [R.jl, R.strip, h_, ia]
 | block id b ih => simp only [R.jl, R.strip, ih]
 | loop b ih => simp only [R.jl, R.strip, ih]
 | h9 T b ih => simp only [R.jl, R.strip, ih]
 | _ => rfl
def R.bare (H : ((Exit → ag → Prop) → ag → Prop) → R → Prop) : R → Prop
 | .ad _ k => k = none
 | .hJ _ _ k => k = none
 | .seq a b => a.bare H ∧ b.bare H
 | .cond _ a b => a.bare H ∧ b.bare H
 | .block _ b => b.bare H
 | .loop b => b.bare H
 | .h9 T b => H T b
 | _ => True
def R.mG (H : ((Exit → ag → Prop) → ag → Prop) → R → Prop) : R → Prop
 | .seq a b => a.mG H ∧ b.mG H
 | .cond _ a b => a.mG H ∧ b.mG H
 | .block _ b => b.mG H
 | .loop b => b.mG H
 | .h9 T b => H T b.jl
 | _ => True
theorem R.BC {H : ((Exit → ag → Prop) → ag → Prop) → R → Prop} : ∀ c : R, c.mG H → c.jl.bare H := by
 intro c
 induction c with
 | seq a b h_ ia => intro h; exact ⟨h_ h.1, ia h.2⟩
 | cond c a b h_ ia => intro h; exact ⟨h_ h.1, ia h.2⟩
 | block id b ih => intro h; exact ih h
 | loop b ih => intro h; exact ih h
 | ad => intro _; rfl
 | hJ => intro _; rfl
 | h9 T b _ => intro h; exact h
 | _ => intro _; trivial
def R.plain : R → Bool
 | .seq a b => a.plain && b.plain
 | .cond _ a b => a.plain && b.plain
 | .block _ b => b.plain
 | .loop b => b.plain
 | .h9 _ _ => false
 | _ => true
theorem R.IU {H : ((Exit → ag → Prop) → ag → Prop) → R → Prop} : ∀ c : R, c.plain = true → c.mG H := by
 intro c
 induction c with
 | seq a b h_ ia => intro h; simp only [R.plain, Bool.and_eq_true] at h; exact ⟨h_ h.1, ia h.2⟩
 | cond c a b h_ ia => intro h; simp only [R.plain, Bool.and_eq_true] at h; exact ⟨h_ h.1, ia h.2⟩
 | block id b ih => intro h; exact ih h
 | loop b ih => intro h; exact ih h
 | h9 T b _ => intro h; cases h
 | _ => intro _; trivial
def andThen (K : ag → Prop) (Q : Exit → ag → Prop) : Exit → ag → Prop
 | .normal, s => K s
 | e, s => Q e s
def p_ (id : Nat) (Q : Exit → ag → Prop) : Exit → ag → Prop
 | .exit i, s => if i = id then Q .normal s else Q (.exit i) s
 | e, s => Q e s
def fv (K : ag → Prop) (s : ag) : Prop := K s ∨ ∃ l, p9 s l ∧ K (I l)
def si : Option (List Nat) → (ag → Prop) → ag → Prop
 | none, K, s => fv K s
 | some k, K, s => K (I (k.map fun t => (t, s t)))
def db (C : bN) : R → (Exit → ag → Prop) → ag → Prop
 | .skip, Q, s => Q .normal s
 | .ad ros keep, Q, s => jj C s ros (si keep (Q .normal))
 | .hJ ros l7 keep, Q, s => ∀ l, x2 l7 l → h8 C ros s l (si keep (Q .normal))
 | .seq a b, Q, s => db C a (andThen (fv (db C b Q)) Q) s
 | .cond c a b, Q, s => match aD s c with
   | .bool ew => if ew = true then db C a Q s else db C b Q s
   | .dO => db C a Q s ∧ db C b Q s
   | _ => False
 | .block id b, Q, s => db C b (p_ id Q) s
 | .loop b, Q, s => fv (fun s => ∀ Z : ag → Prop, (∀ ak, db C b (andThen (fv Z) Q) ak → Z ak) → Z s) s
 | .exit id, Q, s => Q (.exit id) s
 | .ret, Q, s => Q .ret s
 | .h9 T _, Q, s => ∀ fw : Exit → ag → Prop, (∀ e s, Q e s → fw e s) → T fw s
section
variable {C : bN}
theorem x8 {s : ag} {o : cq} {K cK : ag → Prop} (h : jA C s o K) (aw : ∀ s, K s → cK s) : jA C s o cK := by
 unfold jA at h ⊢
 split
 ·rename_i bH; rw [bH] at h; exact uu h fun av s1 => aw _
 ·rename_i t b bH
  rw [bH] at h
  simp only at h
  split
  ·rename_i ew U
   rw [U] at h
   simp only at h
   split
   ·rename_i J; rw [if_pos J] at h; exact uu h fun av s1 => aw _
   ·rename_i J; rw [if_neg J] at h; exact aw _ h
  ·rename_i U; rw [U] at h; exact aw _ h
  ·rename_i aa ab
   split at h
   ·exact aa _ (by assumption)
   ·exact ab (by assumption)
   ·exact h
theorem BD {K cK : ag → Prop} (aw : ∀ s, K s → cK s) : ∀ {ros : List cq} {s : ag}, jj C s ros K → jj C s ros cK := by
 intro ros
 induction ros with
 | nil => intro s h; exact aw s h
 | cons o ros ih => intro s h; exact x8 h fun s h => ih h
theorem BE {ros : List cq} {K cK : ag → Prop} (aw : ∀ s, K s → cK s) : ∀ {l : List Nat} {s : ag}, h8 C ros s l K → h8 C ros s l cK := by
 intro l
 induction l with
 | nil => intro s h; exact aw s h
 | cons i l ih =>
   intro s h
   simp only [h8] at h ⊢
   split
   ·rename_i bP; rw [bP] at h; exact ih h
   ·rename_i o bP; rw [bP] at h; exact x8 h fun s h => ih h
theorem qa {K cK : ag → Prop} (aw : ∀ s, K s → cK s) (s : ag) (h : fv K s) : fv cK s :=
 h.imp (aw s) fun ⟨l, aa, ab⟩ => ⟨l, aa, aw _ ab⟩
theorem BF {keep : Option (List Nat)} {K cK : ag → Prop} (aw : ∀ s, K s → cK s) (s : ag) (h : si keep K s) : si keep cK s := by
 cases keep with
 | none => exact qa aw s h
 | some k => exact aw _ h
theorem BG {keep : Option (List Nat)} {K : ag → Prop} {s : ag} (h : si keep K s) : fv K s := by
 cases keep with
 | none => exact h
 | some k =>
   refine .inr ⟨_, ?_, h⟩
   intro p ao
   obtain ⟨t, _, rfl⟩ := List.mem_map.1 ao
   exact .inl rfl
theorem x9 {K cK : ag → Prop} {Q fw : Exit → ag → Prop} (aw : ∀ s, K s → cK s) (cT : ∀ e s, Q e s → fw e s) : ∀ e s, andThen K Q e s → andThen cK fw e s := by
 intro e s h
 cases e with
 | normal => exact aw s h
 | _ => exact cT _ s h
theorem BH : ∀ (c : R) {Q fw : Exit → ag → Prop} {s : ag}, (∀ e s, Q e s → fw e s) → db C c Q s → db C c fw s := by
 intro c
 induction c with
 | skip => intro Q fw s cT h; exact cT _ _ h
 | ad ros keep => intro Q fw s cT h; exact BD (BF (cT _)) h
 | hJ ros l7 keep => intro Q fw s cT h l hl; exact BE (BF (cT _)) (h l hl)
 | seq a b h_ ia =>
   intro Q fw s cT h
   exact h_ (x9 (fun s h => qa (fun _ h => ia cT h) s h) cT) h
 | cond c a b h_ ia =>
   intro Q fw s cT h
   simp only [db] at h ⊢
   split
   ·rename_i ew J
    rw [J] at h
    simp only at h
    split
    ·rename_i e; rw [if_pos e] at h; exact h_ cT h
    ·rename_i e; rw [if_neg e] at h; exact ia cT h
   ·rename_i J; rw [J] at h; exact ⟨h_ cT h.1, ia cT h.2⟩
   ·rename_i aa ab
    split at h
    ·exact aa _ (by assumption)
    ·exact ab (by assumption)
    ·exact h
 | block id b ih =>
   intro Q fw s cT h
   refine ih ?_ h
   intro e s h
   cases e with
   | exit i =>
     simp only [p_] at h ⊢
     split
     ·rename_i e; rw [if_pos e] at h; exact cT _ _ h
     ·rename_i e; rw [if_neg e] at h; exact cT _ _ h
   | _ => exact cT _ _ h
 | loop b ih =>
   intro Q fw s cT h
   refine qa (fun s h Z qb => ?_) s h
   exact h Z fun ak fy => qb ak (ih (x9 (fun _ h => h) cT) fy)
 | exit id => intro Q fw s cT h; exact cT _ _ h
 | ret => intro Q fw s cT h; exact cT _ _ h
 | h9 T b _ => intro Q fw s cT h fa ab; exact h fa fun e s he => ab e s (cT e s he)
theorem BI : ∀ (c : R) {Q : Exit → ag → Prop} {s : ag}, db C c Q s → db C c.jl Q s := by
 intro c
 induction c with
 | ad ros keep => intro Q s h; exact BD (fun s h => BG h) h
 | hJ ros fu keep => intro Q s h l hl; exact BE (fun s h => BG h) (h l hl)
 | seq a b h_ ia => intro Q s h; exact h_ (BH a (x9 (fun s h => qa (fun _ h => ia h) s h) (fun _ _ h => h)) h)
 | cond c a b h_ ia =>
   intro Q s h
   simp only [R.jl, db] at h ⊢
   split
   ·rename_i ew J
    rw [J] at h
    simp only at h
    split
    ·rename_i e; rw [if_pos e] at h; exact h_ h
    ·rename_i e; rw [if_neg e] at h; exact ia h
   ·rename_i J; rw [J] at h; exact ⟨h_ h.1, ia h.2⟩
   ·rename_i aa ab
    split at h
    ·exact aa _ (by assumption)
    ·exact ab (by assumption)
    ·exact h
 | block id b ih => intro Q s h; exact ih h
 | loop b ih =>
   intro Q s h
   refine qa (fun s h Z qb => ?_) s h
   exact h Z fun ak fy => qb ak (ih fy)
 | h9 T b _ => intro Q s h; exact h
 | _ => intro Q s h; exact h
variable {w0 w : World} {F0 X : Nat → Prop} {n : Fr} {ρ : Nat → Value} {s : ag} {a : Act}
def qc (w0 : World) (F0 X : Nat → Prop) (n : Fr) (ρ : Nat → Value) (Q : Exit → ag → Prop) : Exit → Act → World → Prop := fun e a w => ∃ s, Q e s ∧ Rel w0 F0 X n ρ s a w
theorem Rel.fv {K : ag → Prop} {s : ag} {a : Act} {w : World} (aO : Rel w0 F0 X n ρ s a w) (h : fv K s) : ∃ ak, K ak ∧ Rel w0 F0 X n ρ ak a w := by
 rcases h with h | ⟨l, aa, ab⟩
 ·exact ⟨s, h, aO⟩
 ·obtain ⟨aV, bo, b8, F, S, dn⟩ := aO
  obtain ⟨bA, aH, eg⟩ := dn.BA aa
  exact ⟨I l, ab, aV, bo, b8, bA, aH, eg⟩
theorem R.IV {c : R} (h : c.strip = .skip) : c = .skip ∨ ∃ T b, c = .h9 T b := by cases c <;> first | exact .inl rfl | exact .inr ⟨_, _, rfl⟩ | cases h
theorem R.IW {c : R} (h : c.strip = .ret) : c = .ret ∨ ∃ T b, c = .h9 T b := by cases c <;> first | exact .inl rfl | exact .inr ⟨_, _, rfl⟩ | cases h
theorem R.IX {c : R} {i : Nat} (h : c.strip = .exit i) : c = .exit i ∨ ∃ T b, c = .h9 T b := by cases c <;> first | exact .inl h | exact .inr ⟨_, _, rfl⟩ | cases h
theorem R.IY {c : R} {r : List cq} {k : Option (List Nat)} (h : c.strip = .ad r k) : (∃ ros dh, c = .ad ros dh ∧ ros.map cq.un = r) ∨ ∃ T b, c = .h9 T b := by
 cases c <;> first | (cases h; exact .inl ⟨_, _, rfl, rfl⟩) | exact .inr ⟨_, _, rfl⟩ | cases h
theorem R.IZ {c : R} {r : List cq} {fu : List (List Nat)} {k : Option (List Nat)} (h : c.strip = .hJ r fu k) : (∃ ros BJ dh, c = .hJ ros BJ dh ∧ ros.map cq.un = r ∧ BJ = fu) ∨ ∃ T b, c = .h9 T b := by
 cases c <;> first | (cases h; exact .inl ⟨_, _, _, rfl, rfl, rfl⟩) | exact .inr ⟨_, _, rfl⟩ | cases h
theorem R.I0 {c x y : R} (h : c.strip = .seq x y) : (∃ a b, c = .seq a b ∧ a.strip = x ∧ b.strip = y) ∨ ∃ T b, c = .h9 T b := by
 cases c <;> first | (cases h; exact .inl ⟨_, _, rfl, rfl, rfl⟩) | exact .inr ⟨_, _, rfl⟩ | cases h
theorem R.I1 {c x y : R} {o : ax} (h : c.strip = .cond o x y) : (∃ kG a b, c = .cond kG a b ∧ kG = o ∧ a.strip = x ∧ b.strip = y) ∨ ∃ T b, c = .h9 T b := by
 cases c <;> first | (cases h; exact .inl ⟨_, _, _, rfl, rfl, rfl, rfl⟩) | exact .inr ⟨_, _, rfl⟩ | cases h
theorem R.I2 {c x : R} {i : Nat} (h : c.strip = .block i x) : (∃ a, c = .block i a ∧ a.strip = x) ∨ ∃ T b, c = .h9 T b := by
 cases c <;> first | (cases h; exact .inl ⟨_, rfl, rfl⟩) | exact .inr ⟨_, _, rfl⟩ | cases h
theorem R.I3 {c x : R} (h : c.strip = .loop x) : (∃ a, c = .loop a ∧ a.strip = x) ∨ ∃ T b, c = .h9 T b := by
 cases c <;> first | (cases h; exact .inl ⟨_, rfl, rfl⟩) | exact .inr ⟨_, _, rfl⟩ | cases h
theorem BK (bm : C.Ok) {H : ((Exit → ag → Prop) → ag → Prop) → R → Prop}
  (ib : ∀ (c : Code) (T : (Exit → ag → Prop) → ag → Prop) (b : R) (Q : Exit → ag → Prop) (s : ag) (a : Act) (w : World), H T b → b0 n c = some b.strip → T Q s → Rel w0 F0 X n ρ s a w → c.wp C.P (qc w0 F0 X n ρ Q) a w) :
  ∀ (c : Code) {eK : R} {Q : Exit → ag → Prop} {s : ag} {a : Act} {w : World}, b0 n c = some eK.strip → eK.bare H → db C eK Q s → Rel w0 F0 X n ρ s a w → c.wp C.P (qc w0 F0 X n ρ Q) a w := by
 intro c
 induction c with
 | skip =>
   intro eK Q s a w U gd h aO
   have iZ := U
   simp only [b0, Option.some.injEq] at U
   rcases R.IV U.symm with rfl | ⟨T, b, rfl⟩
   ·exact wp_skip ⟨s, h, aO⟩
   ·exact ib _ T b Q s a w gd (by simpa only [R.strip] using iZ) (h Q fun _ _ h => h) aO
 | region id ops draw =>
   intro eK Q s a w U gd h aO
   have iZ := U
   cases draw with
   | false =>
     simp only [b0, Option.map_eq_some_iff] at U
     obtain ⟨I4, sj, U⟩ := U
     rcases R.IY U.symm with ⟨ros, k, rfl, rfl⟩ | ⟨T, b, rfl⟩
     rotate_left
     ·exact ib _ T b Q s a w gd (by simpa only [R.strip] using iZ) (h Q fun _ _ h => h) aO
     cases gd
     exact IC bm sj (fun ak cf aB aw dV => dV.fv aw) h aO
   | true =>
     simp only [b0] at U
     split at U
     ·rename_i J
      simp only [Option.map_eq_some_iff] at U
      obtain ⟨I4, sj, U⟩ := U
      rcases R.IZ U.symm with ⟨ros, fu, k, rfl, rfl, rfl⟩ | ⟨T, b, rfl⟩
      rotate_left
      ·exact ib _ T b Q s a w gd (by simpa only [R.strip] using iZ) (h Q fun _ _ h => h) aO
      cases gd
      refine wp_region_draw fun t => ?_
      rw [show Region.schedule (C.P.follows .mixedOrders) ops t = Region.linearise .any ops t by simp [Region.schedule, bm.mixed]]
      exact Bp bm sj (fun ak cf aB aw dV => dV.fv aw) _ s a _ (h _ (IL J t)) (aO.drawn _)
     ·cases U
 | seq x y I5 uz =>
   intro eK Q s a w U gd h aO
   have iZ := U
   simp only [b0] at U
   split at U
   ·rename_i rX I6 ai bC
    simp only [Option.some.injEq] at U
    rcases R.I0 U.symm with ⟨cz, iH, rfl, rfl, rfl⟩ | ⟨T, b, rfl⟩
    rotate_left
    ·exact ib _ T b Q s a w gd (by simpa only [R.strip] using iZ) (h Q fun _ _ h => h) aO
    refine wp_seq (wp_mono (I5 ai gd.1 h aO) ?_)
    rintro e cf aB ⟨ak, bq, dV⟩
    cases e with
    | normal =>
      obtain ⟨ak, bq, dV⟩ := dV.fv bq
      exact uz bC gd.2 bq dV
    | _ => exact ⟨ak, bq, dV⟩
   ·cases U
 | cond x y z uz BL =>
   intro eK Q s a w U gd h aO
   have iZ := U
   simp only [b0] at U
   split at U
   ·rename_i rX I6 sz ai bC bw
    simp only [Option.some.injEq] at U
    rcases R.I1 U.symm with ⟨cz, iH, nz, rfl, rfl, rfl, rfl⟩ | ⟨T, b, rfl⟩
    rotate_left
    ·exact ib _ T b Q s a w gd (by simpa only [R.strip] using iZ) (h Q fun _ _ h => h) aO
    have dV := aO
    obtain ⟨af, dI, bL, F, S, m9⟩ := dV
    have aG := (eU (a := a) m9 (fun _ => rfl) ai).2
    simp only [db] at h
    split at h
    ·rename_i ew J
     rw [J] at aG
     have := oA aG
     refine wp_cond this ?_
     split
     ·rename_i e; rw [if_pos e] at h; exact uz bC gd.1 h aO
     ·rename_i e; rw [if_neg e] at h; exact BL bw gd.2 h aO
    ·rename_i J
     rw [J] at aG
     obtain ⟨ew, jR⟩ := Ai aG
     refine wp_cond jR ?_
     split
     ·exact uz bC gd.1 h.1 aO
     ·exact BL bw gd.2 h.2 aO
    ·exact h.elim
   ·cases U
 | block id b ih =>
   intro eK Q s a w U gd h aO
   have iZ := U
   simp only [b0, Option.map_eq_some_iff] at U
   obtain ⟨t_, J, U⟩ := U
   rcases R.I2 U.symm with ⟨ew, rfl, rfl⟩ | ⟨T, b, rfl⟩
   rotate_left
   ·exact ib _ T b Q s a w gd (by simpa only [R.strip] using iZ) (h Q fun _ _ h => h) aO
   refine wp_block (wp_mono (ih J gd h aO) ?_)
   rintro e cf aB ⟨ak, bq, dV⟩
   cases e with
   | exit i =>
     simp only [p_] at bq
     simp only [Exit.inBlock]
     split
     ·rename_i e; rw [if_pos e] at bq; exact ⟨ak, bq, dV⟩
     ·rename_i e; rw [if_neg e] at bq; exact ⟨ak, bq, dV⟩
   | _ => exact ⟨ak, bq, dV⟩
 | loop b ih =>
   intro eK Q s a w U gd h aO
   have iZ := U
   simp only [b0, Option.map_eq_some_iff] at U
   obtain ⟨t_, J, U⟩ := U
   rcases R.I3 U.symm with ⟨ew, rfl, rfl⟩ | ⟨T, b, rfl⟩
   rotate_left
   ·exact ib _ T b Q s a w gd (by simpa only [R.strip] using iZ) (h Q fun _ _ h => h) aO
   obtain ⟨s, h, aO⟩ := aO.fv h
   have key := h (fun s => ∀ a w, Rel w0 F0 X n ρ s a w → ∀ (f : Frame) (k : List Item) (cs : List Frame), ∃ e cf aB, qc w0 F0 X n ρ Q e cf aB ∧ Arrives C.P (lone (f.at a (.code b :: .inLoop b :: k)) cs w) f k cs e cf aB) ?_
   ·intro f k cs
    obtain ⟨e, cf, aB, cT, nL⟩ := key a w aO f k cs
    exact ⟨e, cf, aB, cT, .of_steps (.one step_loop) nL⟩
   ·intro ak fy a w aO f k cs
    obtain ⟨e, a₁, w₁, ⟨s1, cT, nM⟩, nL⟩ := ih J gd fy aO f (.inLoop b :: k) cs
    cases e with
    | normal =>
      simp only [andThen] at cT
      obtain ⟨s1, cT, nM⟩ := nM.fv cT
      obtain ⟨e₂, a₂, w₂, hq₂, harr₂⟩ := cT a₁ w₁ nM f k cs
      exact ⟨e₂, a₂, w₂, hq₂, .of_steps (Steps.trans nL (.one step_inLoop)) harr₂⟩
    | exit id => exact ⟨_, a₁, w₁, ⟨s1, cT, nM⟩, .pass (x := .inLoop b) rfl (fun _ _ => .inl (by simp)) nL⟩
    | goto l => exact ⟨_, a₁, w₁, ⟨s1, cT, nM⟩, .pass (x := .inLoop b) rfl (fun _ _ => .inl (by simp)) nL⟩
    | ret => exact ⟨_, a₁, w₁, ⟨s1, cT, nM⟩, .pass (x := .inLoop b) rfl (fun _ _ => .inl (by simp)) nL⟩
    | panic aae => exact ⟨_, a₁, w₁, ⟨s1, cT, nM⟩, .pass (x := .inLoop b) rfl (fun _ _ => .inl (by simp)) nL⟩
    | outgrown => exact ⟨_, a₁, w₁, ⟨s1, cT, nM⟩, .pass (x := .inLoop b) rfl (fun _ _ => .inl (by simp)) nL⟩
 | exit id =>
   intro eK Q s a w U gd h aO
   have iZ := U
   simp only [b0, Option.some.injEq] at U
   rcases R.IX U.symm with rfl | ⟨T, b, rfl⟩
   ·exact wp_exit ⟨s, h, aO⟩
   ·exact ib _ T b Q s a w gd (by simpa only [R.strip] using iZ) (h Q fun _ _ h => h) aO
 | ret =>
   intro eK Q s a w U gd h aO
   have iZ := U
   simp only [b0, Option.some.injEq] at U
   rcases R.IW U.symm with rfl | ⟨T, b, rfl⟩
   ·exact wp_ret ⟨s, h, aO⟩
   ·exact ib _ T b Q s a w gd (by simpa only [R.strip] using iZ) (h Q fun _ _ h => h) aO
 | _ => intro eK Q s a w U; simp [b0] at U
theorem I7 (bm : C.Ok) (c : Code) {eK : R} {Q : Exit → ag → Prop} {s : ag} {a : Act} {w : World} (U : b0 n c = some eK.strip) (J : eK.bare (fun _ _ => False)) (h : db C eK Q s) (aO : Rel w0 F0 X n ρ s a w) : c.wp C.P (qc w0 F0 X n ρ Q) a w :=
 BK bm (fun _ _ _ _ _ _ _ bL => bL.elim) c U J h aO
end
def ic : ResultVar → Nat
 | .tmp t => t
 | .cell a _ => a
def nN (C : bN) (s : ag) : ResultVar → Option j
 | .tmp t => if (s t).tree = true then (match s t with | .tuple _ => none | d => some d) else none
 | .cell a T => match s a with
   | .bD d => if fits C T d = true ∧ d.tree = true then some d else none
   | _ => none
def Ends (C : bN) (fx : List Nat) (fK : List ResultVar) (r : j) (outs : List j) (s : ag) : Prop :=
 ∃ ds, fK.map (nN C s) = ds.map some ∧ r = (match ds with | [d] => d | ds => .tuple ds) ∧ (fK.map ic).Nodup ∧
   ∀ (i : Nat) (o : j), outs[i]? = some o → o = .hole ∨ (o = s i ∧ o.e9 = true ∧ i ∈ fx ∧ i ∉ fK.map ic)
section
variable {C : bN} {w0 w : World} {F0 X F : Nat → Prop} {S : Nat → Nat → Prop} {s : ag} {tmps : Array Value}
theorem BM {d : j} {x : Value} (af : ∀ vs, d ≠ .tuple vs) (h : dt d x) : ch x = gx x ∧ gW d x := by
 have : gW d x := by cases d <;> first | exact h | exact (af _ rfl).elim
 refine ⟨?_, this⟩
 cases d <;> first
  | (obtain ⟨a, rfl⟩ := this; rfl)
  | (simp only [gW] at this
     rw [g_ this]
     cases x <;> first | rfl | (simp [Value.fz] at this))
def sk (tmps : Array Value) : ResultVar → Sem Value
 | .tmp t => pure (tmps.getD t undef)
 | .cell a t => do loadVar t (← asAddr (tmps.getD a undef))
theorem I8 (bm : C.Ok) (h : bB w0 F0 X F S s (fun t => tmps.getD t undef) w) {v : ResultVar} {d : j} (aG : nN C s v = some d) :
  ∃ x, (sk tmps v).run C.P w = .ok x w ∧ d.tree = true ∧ (∀ vs, d ≠ .tuple vs) ∧ dt d x ∧ aq w F d (ch x) (S (ic v)) := by
 cases v with
 | tmp t =>
   simp only [nN] at aG
   split at aG
   ·rename_i aP
    have kk : (∀ vs, s t ≠ .tuple vs) ∧ d = s t := by
     cases U : s t <;> rw [U] at aG <;> simp only at aG <;> first
      | (cases aG; done)
      | (simp only [Option.some.injEq] at aG; exact ⟨(fun _ h => by cases h), aG.symm⟩)
    obtain ⟨kk, rfl⟩ := kk
    obtain ⟨aV, bo⟩ := (aF.cr aP).1 (h.c7 t)
    exact ⟨_, by simp [sk], aP, kk, aV, bo⟩
   ·cases aG
 | cell a T =>
   simp only [nN] at aG
   split at aG
   ·rename_i e U
    split at aG
    ·rename_i I9
     obtain ⟨iu, I_⟩ := I9
     simp only [Option.some.injEq] at aG; subst aG
     have hv := h.c7 a
     rw [U] at hv
     obtain ⟨aV, bo⟩ := (aF.cr (d := .bD e) rfl).1 hv
     rw [g_ aV, aq] at bo
     obtain ⟨b, cur, ty, fr, aH, b9, cj, d_, dv, e1, dY, iw⟩ := bo
     simp only [List.cons.injEq, and_true] at b9
     have h2 : Rd w b 0 cur.toList := by
      have := pK d_ cur.size
      rwa [List.take_of_length_le (by simp)] at this
     obtain ⟨x, eh, eZ, jt⟩ := tR (C := C) bm h2 e1 iu
     refine ⟨x, ?_, I_, ?_, jt, ?_⟩
     ·simp only [sk]
      rw [b9]
      simpa [asAddr] using eh
     ·intro vs eC; subst eC
      unfold fits at iu
      split at iu <;> simp_all
     ·rw [eZ]; exact aq.mono (fun _ h => h) _ _ _ _ dY e1
    ·cases aG
   ·cases aG
theorem Ja (bm : C.Ok) (h : bB w0 F0 X F S s (fun t => tmps.getD t undef) w) : ∀ (fK : List ResultVar) (ds : List j), fK.map (nN C s) = ds.map some → (fK.map ic).Nodup →
  ∃ xs, (fK.mapM (sk tmps)).run C.P w = .ok xs w ∧ xs.length = ds.length ∧ aU w F ds (xs.flatMap gx) (fun b => ∃ t ∈ fK.map ic, S t b) ∧
    ∀ (k : Nat) (d : j) (x : Value), ds[k]? = some d → xs[k]? = some x → dt d x ∧ (∀ vs, d ≠ .tuple vs) ∧ (gx x).length = d.wd ∧ ch x = gx x ∧ d.tree = true := by
 intro fK
 induction fK with
 | nil =>
   intro ds he _
   have : ds = [] := by simpa using he.symm
   subst this
   exact ⟨[], by simp, rfl, by simp only [List.flatMap_nil]; rw [aU], fun k d x af => by simp at af⟩
 | cons v fK ih =>
   intro ds he qd
   cases ds with
   | nil => simp at he
   | cons d ds =>
     simp only [List.map_cons, List.cons.injEq] at he
     simp only [List.map_cons, List.nodup_cons] at qd
     obtain ⟨x, eh, rt, eZ, jt, jT⟩ := I8 bm h he.1
     obtain ⟨xs, jk, bR, gg, c3⟩ := ih ds he.2 qd.2
     obtain ⟨aJ, aT⟩ := BM eZ jt
     refine ⟨x :: xs, by simp [List.mapM_cons, eh, jk], by simp [bR], ?_, ?_⟩
     ·simp only [List.flatMap_cons]
      rw [aU]
      rw [aJ] at jT
      refine ⟨gx x, xs.flatMap gx, S (ic v), fun b => ∃ t ∈ fK.map ic, S t b, rfl, jT, gg, fun b J => ⟨ic v, by simp, J⟩, ?_, ?_⟩
      ·rintro b ⟨t, aP, J⟩; exact ⟨t, by simp [aP], J⟩
      ·rintro b J ⟨t, aP, jR⟩
       have : t ≠ ic v := fun e => qd.1 (e ▸ aP)
       exact h.eT t (ic v) b this jR J
     ·intro k bj cz af ai
      cases k with
      | zero =>
        simp at af ai; subst af ai
        refine ⟨jt, eZ, ?_, aJ, rt⟩
        rw [← aJ]; exact aq.length _ _ _ jT
      | succ k => exact c3 k bj cz (by simpa using af) (by simpa using ai)
theorem BN (bm : C.Ok) {f : FuncId} {fn : Func} {c : Code} {fx : List Nat} {as outs : List j} {r : j} (bL : C.P.funcs[f]? = some fn) (J : fn.body = some c)
  (kI : (fn.name == "runtime.NumGoroutine") = false) (bh : as.length ≤ fn.ntmps)
  {w : World} {F X : Nat → Prop} {S : Nat → Nat → Prop} {vs : List Value} (hl : vs.length = as.length) (aO : bB w F X F S (eI as) (fS vs) w)
  (Jb : ∀ a, Rel w F X ⟨fn.ntmps, fx⟩ (fS vs) (eI as) a w → (∀ t, a.tmps.getD t undef = fS vs t) → c.wp C.P (qc w F X ⟨fn.ntmps, fx⟩ (fS vs) (fun e s => (e = .normal ∨ e = .ret) ∧ fv (Ends C fx fn.results.toList r outs) s)) a w) :
  lr C.P f vs.toArray w fun v aB => ∃ bA aH, bB w F X bA aH (eI (r :: outs)) (fS (v :: vs)) aB := by
 have kj : (vs.toArray ++ Array.replicate (fn.ntmps - vs.toArray.size) undef).size = fn.ntmps := by simp; omega
 have dD : (fun t => (vs.toArray ++ Array.replicate (fn.ntmps - vs.toArray.size) undef).getD t undef) = fS vs := by
  funext t
  simp only [fS, Array.getD_eq_getD_getElem?, List.getD_eq_getElem?_getD]
  by_cases aP : t < vs.length
  ·rw [Array.getElem?_append_left (by simpa using aP)]; simp
  ·rw [Array.getElem?_append_right (by simpa using aP)]
   rw [List.getElem?_eq_none (by omega)]
   simp only [Array.getElem?_replicate]
   split <;> rfl
 have m9 : Rel w F X ⟨fn.ntmps, fx⟩ (fS vs) (eI as) { tmps := vs.toArray ++ Array.replicate (fn.ntmps - vs.toArray.size) undef, defers := [] } w :=
  ⟨rfl, kj, fun i _ => congrFun dD i, F, S, by rw [dD]; exact aO⟩
 have x_ : fn.name ≠ "runtime.NumGoroutine" := by simpa using kI
 refine .inl ⟨by simp [callFunc, bL, x_, J], calls_of_wp bL J (wp_mono (Jb _ m9 (congrFun dD)) ?_)⟩
 rintro e cf aB ⟨ak, ⟨he, Jc⟩, Jd⟩
 obtain ⟨ak, ⟨ds, hI, BO, qd, rG⟩, af, dI, hf, bA, aH, dV⟩ := Jd.fv Jc
 obtain ⟨xs, jk, bR, gg, c3⟩ := Ja bm dV _ ds hI qd
 have Je : (results fn cf.tmps) = (do let vs ← fn.results.mapM (sk cf.tmps); pure (if h : vs.size = 1 then vs[0] else .tuple vs)) := by
  unfold results
  congr 1
 have oy : (results fn cf.tmps).run C.P aB = .ok (if h : xs.toArray.size = 1 then xs.toArray[0] else .tuple xs.toArray) aB := by
  rw [Je, Array.mapM_eq_mapM_toList]
  simp [jk]
 have oV : (r.tree = true ∧ dt r (if h : xs.toArray.size = 1 then xs.toArray[0] else .tuple xs.toArray) ∧
   aq aB bA r (ch (if h : xs.toArray.size = 1 then xs.toArray[0] else .tuple xs.toArray)) (fun b => ∃ t ∈ fn.results.toList.map ic, aH t b)) := by
  by_cases aa : ∃ d, ds = [d]
  ·obtain ⟨d, rfl⟩ := aa
   obtain ⟨x, rfl⟩ : ∃ x, xs = [x] := by
    cases xs with
    | nil => simp at bR
    | cons x xs => cases xs with
      | nil => exact ⟨x, rfl⟩
      | cons y bM => simp at bR
   obtain ⟨b9, cj, d_, dv, e1⟩ := c3 0 d x rfl rfl
   have Jf : d = r := BO.symm
   subst Jf
   simp only [List.flatMap_cons, List.flatMap_nil, List.append_nil] at gg
   rw [aU] at gg
   obtain ⟨bT, b4, bW, c6, aJ, aT, bb, cn, c1, b6⟩ := gg
   rw [aU] at bb; subst bb
   simp only [List.append_nil] at aJ; subst aJ
   have ai : (if h : ([x] : List Value).toArray.size = 1 then ([x] : List Value).toArray[0] else .tuple ([x] : List Value).toArray) = x := by simp
   rw [ai, dv]
   exact ⟨e1, b9, aq.mono (fun _ h => h) _ _ _ _ cn aT⟩
  ·have Jg : r = .tuple ds := by
    rw [BO]
    cases ds with
    | nil => rfl
    | cons d ds => cases ds with
      | nil => exact (aa ⟨d, rfl⟩).elim
      | cons e ds => rfl
   have ai : (if h : xs.toArray.size = 1 then xs.toArray[0] else Value.tuple xs.toArray) = .tuple xs.toArray := by
    rw [dif_neg]
    intro dI
    have : ds.length = 1 := by rw [← bR]; simpa using dI
    obtain ⟨d, af⟩ := List.length_eq_one_iff.1 this
    exact aa ⟨d, af⟩
   rw [ai, Jg]
   refine ⟨rfl, ⟨xs.toArray, rfl, by simpa using bR, fun k d x af ai => ?_⟩, ?_⟩
   ·obtain ⟨b9, cj, d_, dv, _⟩ := c3 k d x af (by simpa using ai)
    exact ⟨(BM cj b9).2, cj, d_⟩
   ·rw [aq]
    simpa [ch] using gg
 have post : ∀ (v : Value), (r.tree = true ∧ dt r v ∧ aq aB bA r (ch v) (fun b => ∃ t ∈ fn.results.toList.map ic, aH t b)) → ∃ p6 bW, bB w F X p6 bW (eI (r :: outs)) (fS (v :: vs)) aB := by
  rintro v ⟨v1, v2, v3⟩
  have ya : ∀ i, (outs.getD i .hole).e9 = true → outs.getD i .hole = ak i ∧ i ∈ fx ∧ i ∉ fn.results.toList.map ic := by
   intro i az
   cases bP : outs[i]? with
   | none => simp [List.getD, bP, j.e9] at az
   | some o =>
     have e : outs.getD i .hole = o := by simp [List.getD, bP]
     rw [e] at az ⊢
     rcases rG i o bP with h | h
     ·subst h; simp [j.e9] at az
     ·exact ⟨h.1, h.2.2⟩
  refine ⟨bA, fun t b => match t with | 0 => ∃ t ∈ fn.results.toList.map ic, aH t b | i + 1 => (outs.getD i .hole).e9 = true ∧ aH i b, dV.gb, dV.gz, dV.e0, ?_, ?_, ?_, ?_, ?_, dV.old, dV.size, dV.os, dV.tape, dV.output⟩
  ·intro t b J
   cases t with
   | zero => obtain ⟨t, _, J⟩ := J; exact dV.dP t b J
   | succ i => exact dV.dP i b J.2
  ·intro t b J
   cases t with
   | zero => obtain ⟨t, _, J⟩ := J; exact dV.e7 t b J
   | succ i => exact dV.e7 i b J.2
  ·intro t u b cZ J hu
   cases t with
   | zero =>
     obtain ⟨t, aP, J⟩ := J
     cases u with
     | zero => exact cZ rfl
     | succ ar =>
       refine dV.eT t ar b (fun e => ?_) J hu.2
       subst e; exact (ya t hu.1).2.2 aP
   | succ i =>
     cases u with
     | zero =>
       obtain ⟨t, aP, hu⟩ := hu
       refine dV.eT t i b (fun e => ?_) hu J.2
       subst e; exact (ya t J.1).2.2 aP
     | succ ar => exact dV.eT i ar b (by omega) J.2 hu.2
  ·intro t b J
   cases t with
   | zero => obtain ⟨t, _, J⟩ := J; exact dV.dd t b J
   | succ i => exact dV.dd i b J.2
  ·intro t
   cases t with
   | zero => exact (aF.cr v1).2 ⟨v2, v3⟩
   | succ i =>
     show aF aB bA (eI (r :: outs)) (fS (v :: vs)) (outs.getD i .hole) (vs.getD i undef) (fun b => (outs.getD i .hole).e9 = true ∧ aH i b)
     cases az : (outs.getD i .hole).e9 with
     | false =>
       have : outs.getD i .hole = .hole := by
        cases bP : outs[i]? with
        | none => simp [List.getD, bP]
        | some o =>
          have e : outs.getD i .hole = o := by simp [List.getD, bP]
          rw [e] at az ⊢
          rcases rG i o bP with h | h
          ·exact h
          ·rw [h.2.1] at az; cases az
       rw [this, aF]; trivial
     | true =>
       obtain ⟨kH, l3, uk⟩ := ya i az
       have aP := (nF az).2.1
       have hv := dV.c7 i
       rw [← kH] at hv
       obtain ⟨aV, bo⟩ := (aF.cr aP).1 hv
       have aG : cf.tmps.getD i undef = vs.getD i undef := hf i l3
       rw [aG] at aV bo
       exact (aF.cr aP).2 ⟨aV, aq.mono (fun _ h => h) _ _ _ _ (fun b J => ⟨rfl, J⟩) bo⟩
 rcases he with rfl | rfl
 ·exact ⟨af, _, oy, _, rfl, post _ oV⟩
 ·exact ⟨af, _, oy, _, rfl, post _ oV⟩
theorem aX.of_wp (bm : C.Ok) {f : FuncId} {fn : Func} {c : Code} {eK : R} {fx : List Nat} {as outs : List j} {r : j} (bL : C.P.funcs[f]? = some fn) (J : fn.body = some c)
  (kI : (fn.name == "runtime.NumGoroutine") = false) (U : b0 ⟨fn.ntmps, fx⟩ c = some eK.strip) (bh : as.length ≤ fn.ntmps)
  (h : db C eK (fun e s => (e = .normal ∨ e = .ret) ∧ fv (Ends C fx fn.results.toList r outs) s) (eI as)) (ao : eK.plain = true := by kernel_rfl) : aX C f as r outs :=
 fun w F X S vs hl aO => BN bm bL J kI bh hl aO fun a m9 _ => I7 bm c (by rw [R.BB]; exact U) (R.BC eK (R.IU eK ao)) (BI eK h) m9
end
def num : Nat → List j → List (Nat × j)
 | _, [] => []
 | k, a :: as => (k, a) :: num (k + 1) as
theorem Jh : ∀ (as : List j) (k t : Nat), I (num k as) (k + t) = as.getD t .hole := by
 intro as
 induction as with
 | nil => intro k t; simp [num, I]
 | cons a as ih =>
   intro k t
   cases t with
   | zero => simp [num, I]
   | succ t =>
     have := ih (k + 1) t
     simp only [num, I]
     rw [if_neg (by omega)]
     rw [show k + (t + 1) = k + 1 + t by omega, this]
     simp
theorem yb (as : List j) : eI as = I (num 0 as) := by
 funext t
 have := Jh as 0 t
 rw [Nat.zero_add] at this
 rw [this]; rfl
theorem i0 (l : List (Nat × j)) (t : Nat) (d : j) : cS (I l) t d = I ((t, d) :: l) := by
 funext u; simp only [cS, I]
def l8 (t : Nat) : List (Nat × j) → List (Nat × j)
 | [] => []
 | (u, d) :: l => (u, ca t d) :: l8 t l
def oW (t : Nat) : List (Nat × j) → List (Nat × j)
 | [] => []
 | (u, d) :: l => (u, bJ t d) :: oW t l
theorem sl (t : Nat) : ∀ l : List (Nat × j), jS t (I l) = I (l8 t l) := by
 intro l
 funext u
 induction l with
 | nil => rfl
 | cons p l ih =>
   obtain ⟨v, d⟩ := p
   simp only [jS, I, l8] at ih ⊢
   split
   ·rfl
   ·exact ih
theorem Ji (t : Nat) : ∀ l : List (Nat × j), g9 t (I l) = I (oW t l) := by
 intro l
 funext u
 induction l with
 | nil => rfl
 | cons p l ih =>
   obtain ⟨v, d⟩ := p
   simp only [g9, I, oW] at ih ⊢
   split
   ·rfl
   ·exact ih
def hK (k : List Nat) (s : ag) : List (Nat × j) := k.map fun t => (t, s t)
section
variable {C : bN} {l : List (Nat × j)}
def eD.oX : eD → Bool
 | .call _ _ => true
 | .ae _ => false
 | .an _ => false
 | .pick _ _ _ => false
 | .eV _ => false
 | .di _ _ => false
 | .ft _ _ => false
 | .c_ _ _ _ => false
 | .aW _ _ => false
 | .de _ _ _ => false
 | .dw _ => false
 | .aK _ _ _ _ => false
 | .un _ _ => false
 | .ey _ _ _ => false
 | .h5 _ _ => false
 | .eH _ _ _ => false
 | .dx _ _ _ _ => false
 | .bs _ _ _ => false
 | .cp _ _ _ => false
 | .idx _ _ _ => false
 | .ex _ _ => false
 | .len _ _ => false
 | .app _ _ _ _ => false
 | .shr _ => true
 | .hH _ _ _ _ => false
 | .cap _ _ => false
 | .mB _ _ _ => false
 | .bad => false
 | .ki _ _ _ _ => true
 | .jg _ _ _ => true
 | .h4 _ _ => false
variable {Q : Exit → ag → Prop}
def j.qe : j → Bool
 | .tuple _ => true
 | _ => false
theorem Ends.one {fx : List Nat} {t : Nat} {r : j} {s : ag} (aa : s t = r) (ab : (r.tree && !r.qe) = true) : Ends C fx [.tmp t] r [] s := by
 simp only [Bool.and_eq_true, Bool.not_eq_true'] at ab
 obtain ⟨ab, uA⟩ := ab
 have aE : ∀ vs, r ≠ .tuple vs := fun vs e => by subst e; simp [j.qe] at uA
 refine ⟨[r], ?_, rfl, by simp, fun i o h => by simp at h⟩
 have : nN C s (.tmp t) = some r := by
  simp only [nN, aa, ab, if_true]
  try (cases r <;> first | rfl | exact (aE _ rfl).elim)
 simp only [List.map_cons, List.map_nil, this]
end
section
variable {C : bN} {l : List (Nat × j)} {Q : Exit → ag → Prop}
theorem aX.outs {f : FuncId} {as : List j} {r : j} {kH l3 : List j} (h : aX C f as r kH) (he : eI kH = eI l3) : aX C f as r l3 := by
 intro w F X S vs hl aO
 refine lr.mono (h w F X S vs hl aO) ?_
 rintro v aB ⟨bA, aH, bq⟩
 refine ⟨bA, aH, ?_⟩
 have : eI (r :: l3) = eI (r :: kH) := by
  funext t
  cases t with
  | zero => rfl
  | succ t => exact (congrFun he t).symm
 rw [this]; exact bq
def j2 : List j → List j → List b_
 | a :: as, d :: ds => ⟨a, false, d, .hole⟩ :: j2 as ds
 | _, _ => []
theorem Jj {s : ag} : ∀ (as ds : List j), views s as = some ds → (j2 as ds).map (·.a) = as ∧ (j2 as ds).map (·.d) = ds ∧ (∀ p ∈ j2 as ds, p.ok s ∧ p.g = false ∧ p.o = .hole ∧ p.a ∈ as) ∧ gK (j2 as ds) = true ∧
  eI ((j2 as ds).map (·.o)) = eI [] ∧ (∀ na, dR na (j2 as ds) = na) ∧ (∀ na, gf na (j2 as ds) = na) := by
 intro as
 induction as with
 | nil =>
   intro ds h
   simp only [views, Option.some.injEq] at h; subst h
   exact ⟨rfl, rfl, (fun p ao => by cases ao), rfl, rfl, fun _ => rfl, fun _ => rfl⟩
 | cons a as ih =>
   intro ds h
   simp only [views] at h
   split at h
   ·rename_i d Jk aa ab
    simp only [Option.some.injEq] at h; subst h
    obtain ⟨aJ, aT, bb, cn, c1, b6, bS⟩ := ih Jk ab
    refine ⟨by simp only [j2, List.map_cons, aJ], by simp only [j2, List.map_cons, aT], ?_, ?_, ?_, ?_, ?_⟩
    ·intro p ao
     simp only [j2, List.mem_cons] at ao
     rcases ao with rfl | ao
     ·exact ⟨by simp only [b_.ok]; exact aa, rfl, rfl, by simp⟩
     ·obtain ⟨aV, bo, b8, dn⟩ := bb p ao
      exact ⟨aV, bo, b8, by simp [dn]⟩
    ·simp only [j2, gK, cn, Bool.and_true, List.all_eq_true]
     intro p ao
     simp [(bb p ao).2.1]
    ·funext t
     cases t with
     | zero => rfl
     | succ t => exact (congrFun c1 t).trans (by simp [eI])
    ·intro na; exact b6 na
    ·intro na; exact bS na
   ·cases h
end
structure ea where
 bn : List Nat
 H : List Nat
 T : List Nat
 c : Bool
mutual
def j.clean : j → Bool
 | .hole => false
 | .fn _ cap => j.qf cap
 | _ => true
def j.qf : List j → Bool
 | [] => true
 | d :: ds => d.clean && j.qf ds
end
mutual
theorem BP {x : Nat} : ∀ a : j, (bJ x a).clean = true → bJ x a = a
 | .h y q, h => by
   simp only [bJ] at h ⊢
   split
   ·rename_i e; rw [if_pos e] at h
    split
    ·rfl
    ·rename_i eC; rw [if_neg eC] at h; simp [j.clean] at h
   ·rfl
 | .ao y q, h => by
   simp only [bJ] at h ⊢
   split
   ·rename_i e; rw [if_pos e] at h; simp [j.clean] at h
   ·rfl
 | .J y q, h => rfl
 | .fn f cap, h => by simp only [bJ, j.clean] at h ⊢; rw [BQ cap h]
 | .hole, _ => rfl
 | .bool _, _ => rfl
 | .dO, _ => rfl
 | .int _ _, _ => rfl
 | .str _, _ => rfl
 | .cW, _ => rfl
 | .a_, _ => rfl
 | .slice _, _ => rfl
 | .ay _ _, _ => rfl
 | .ref _, _ => rfl
 | .bD _, _ => rfl
 | .agg _, _ => rfl
 | .tuple _, _ => rfl
theorem BQ {x : Nat} : ∀ ds : List j, j.qf (gY x ds) = true → gY x ds = ds
 | [], _ => rfl
 | d :: ds, h => by
   simp only [gY, j.qf, Bool.and_eq_true] at h ⊢
   rw [BP d h.1, BQ ds h.2]
end
mutual
theorem BR {x : Nat} : ∀ a : j, (ca x a).clean = true → ca x a = a
 | .h y q, h => by
   simp only [ca] at h ⊢
   split
   ·rename_i e; rw [if_pos e] at h; simp [j.clean] at h
   ·rfl
 | .ao y q, h => by
   simp only [ca] at h ⊢
   split
   ·rename_i e; rw [if_pos e] at h; simp [j.clean] at h
   ·rfl
 | .J y q, h => by
   simp only [ca] at h ⊢
   split
   ·rename_i e; rw [if_pos e] at h; simp [j.clean] at h
   ·rfl
 | .fn f cap, h => by simp only [ca, j.clean] at h ⊢; rw [BS cap h]
 | .hole, _ => rfl
 | .bool _, _ => rfl
 | .dO, _ => rfl
 | .int _ _, _ => rfl
 | .str _, _ => rfl
 | .cW, _ => rfl
 | .a_, _ => rfl
 | .slice _, _ => rfl
 | .ay _ _, _ => rfl
 | .ref _, _ => rfl
 | .bD _, _ => rfl
 | .agg _, _ => rfl
 | .tuple _, _ => rfl
theorem BS {x : Nat} : ∀ ds : List j, j.qf (hq x ds) = true → hq x ds = ds
 | [], _ => rfl
 | d :: ds, h => by
   simp only [hq, j.qf, Bool.and_eq_true] at h ⊢
   rw [BR d h.1, BS ds h.2]
end
theorem Jl {k : mC} {x : Nat} {a : j} (h : (k.app x a).clean = true) : k.app x a = a := by
 cases k with
 | no => rfl
 | bJ => exact BP a h
 | ca => exact BR a h
theorem Jm : ∀ (ms : List fh) (u : Nat) (a : j), (∀ m ∈ ms, m.x ≠ u) → (h6 ms u a).clean = true → h6 ms u a = a := by
 intro ms
 induction ms with
 | nil => intros; rfl
 | cons m ms ih =>
   intro u a ai aj
   simp only [h6] at aj ⊢
   have e := ih u _ (fun h3 jB => ai h3 (by simp [jB])) aj
   have hm : m.at u a = m.k.app m.x a := by
    simp only [fh.at]; rw [if_neg (fun e => ai m (by simp) e.symm)]
   rw [e, hm]
   rw [e, hm] at aj
   exact Jl aj
theorem Jn : ∀ (ms : List fh) (u : Nat) (a : j), (∀ m ∈ ms, m.x ≠ u ∧ m.x ∉ a.U) → h6 ms u a = a := by
 intro ms
 induction ms with
 | nil => intros; rfl
 | cons m ms ih =>
   intro u a ai
   simp only [h6]
   have hm : m.at u a = a := by
    simp only [fh.at]; rw [if_neg (fun e => (ai m (by simp)).1 e.symm)]
    exact r3 (.inr (ai m (by simp)).2)
   rw [hm]
   exact ih u a fun h3 jB => ai h3 (by simp [jB])
theorem Jo (m : fh) : ∀ (ms : List fh) (u : Nat) (a : j), (∀ h3 ∈ ms, h3.x ≠ m.x ∧ h3.x ∉ m.d.U ∧ m.x ∉ h3.d.U) → h6 ms u (m.at u a) = m.at u (h6 ms u a) := by
 intro ms
 induction ms with
 | nil => intros; rfl
 | cons n ms ih =>
   intro u a ai
   simp only [h6]
   have bh := ai n (by simp)
   have aj : n.at u (m.at u a) = m.at u (n.at u a) := by
    simp only [fh.at]
    by_cases aJ : u = n.x
    ·subst aJ
     rw [if_pos rfl, if_neg bh.1, if_pos rfl]
     exact (r3 (.inr bh.2.2)).symm
    ·rw [if_neg aJ]
     by_cases aT : u = m.x
     ·subst aT
      rw [if_pos rfl, if_pos rfl]
      exact r3 (.inr bh.2.1)
     ·rw [if_neg aT, if_neg aJ, if_neg aT]
      exact HH _ _ _ _ _
   rw [aj]
   exact ih u _ fun h3 jB => ai h3 (by simp [jB])
theorem Jp : ∀ (ms iY : List fh) (s : ag), (∀ m ∈ ms, ∀ n ∈ iY, n.x ≠ m.x ∧ n.x ∉ m.d.U ∧ m.x ∉ n.d.U) → cL iY (cL ms s) = cL ms (cL iY s) := by
 intro ms
 induction ms with
 | nil => intros; rfl
 | cons m ms ih =>
   intro iY s h
   have e : ∀ s, cL (m :: ms) s = cL ms (cL [m] s) := fun s => jy [m] ms s
   rw [e, e, ih iY _ (fun h3 jB => h h3 (by simp [jB]))]
   congr 1
   funext u
   simp only [cL, h6]
   exact Jo m iY u _ (h m (by simp))
def yc (C : bN) (s : ag) (f : ax) (args : List ax) (K : List Nat → j → ag → Prop) : Prop :=
 ∃ (g : FuncId) (caps : List j) (ps : List b_) (r : j), aD s f = .fn g caps ∧ j.dz caps = true ∧ ps.map (·.a) = args.map (aD s) ++ caps ∧ (∀ p ∈ ps, p.ok s) ∧ gK ps = true ∧
   aX C g (ps.map (·.d)) r (ps.map (·.o)) ∧ r.res = true ∧ (ix ps = true → r.cY = true ∧ ∀ p ∈ ps, p.o.cY = true) ∧ K (j.c2 ((ps.filter (·.g)).map (·.a))) r (gf (dR s ps) ps)
def kJ (C : bN) (s : ag) (bd : eD) (K : List Nat → j → ag → Prop) : Prop :=
 match bd with
 | .call f args => ∃ (g : FuncId) (caps : List j) (ps : List b_) (r : j), aD s f = .fn g caps ∧ j.dz caps = true ∧ ps.map (·.a) = args.map (aD s) ++ caps ∧ (∀ p ∈ ps, p.ok s) ∧ gK ps = true ∧
   aX C g (ps.map (·.d)) r (ps.map (·.o)) ∧ r.res = true ∧ (ix ps = true → r.cY = true ∧ ∀ p ∈ ps, p.o.cY = true) ∧ K (j.c2 ((ps.filter (·.g)).map (·.a))) r (gf (dR s ps) ps)
 | .shr bd => ∃ av s1, br C s bd = some (av, s1) ∧ av.tree = true ∧ (∀ vs, av ≠ .tuple vs) ∧ K (cH s bd) av.share s1
 | .ki f args u x => s u = .h x [] ∧ (s x).own = true ∧ yc C s f args fun cd av s1 => s1 u = .hole ∧ (s1 x).own = true ∧ K (u :: cd) av (cS s1 u (.h x []))
 | .jg f args us => ji s (hx s us) = true ∧ yc C s f args fun cd av s1 => ji s1 (hx s us) = true ∧ K (us ++ cd) av (kl s1 (hx s us))
 | bd => ∃ av s1, br C s bd = some (av, s1) ∧ K (cH s bd) av s1
def hg (s : ag) (bn : List Nat) (dst : Option Nat) (cd : List Nat) (av : j) : ea :=
 ⟨bn, bn.flatMap (fun u => (s u).U) ++ av.U, dst.toList ++ cd, bn.all fun u => (s u).clean⟩
def j3 (C : bN) (s : ag) (o : cq) (K : ea → ag → Prop) : Prop :=
 match o.guard with
 | none => kJ C s o.bd fun cd av s1 => K (hg s (use s o.bd) o.dst cd av) (fin s1 o.dst av)
 | some (t, b) => match s t with
   | .bool ew => if ew = b then kJ C s o.bd (fun cd av s1 => K (hg s (t :: use s o.bd) o.dst cd av) (fin s1 o.dst av)) else K (hg s [t] o.dst [] (.tuple [])) (fin s o.dst (.tuple []))
   | .tuple [] => K (hg s [t] o.dst [] (.tuple [])) (fin s o.dst (.tuple []))
   | _ => False
def mH : Option (List ea) → ea → Option (List ea)
 | none, _ => none
 | some l, f => some (f :: l)
def bQ (C : bN) (s : ag) : List cq → Option (List ea) → (Option (List ea) → ag → Prop) → Prop
 | [], acc, K => K acc s
 | o :: os, acc, K => j3 C s o fun f s1 => bQ C s1 os (mH acc f) K
section
variable {C : bN}
theorem BT {s : ag} {bd : eD} {K : List Nat → j → ag → Prop} {cK : j → ag → Prop} (aw : ∀ cd av s, K cd av s → cK av s) (h : kJ C s bd K) : lv C s bd cK := by
 cases bd with
 | call f args =>
   obtain ⟨g, caps, ps, r, aa, eJ, ab, aE, aZ, bG, b7, b5, dG⟩ := h
   exact ⟨g, caps, ps, r, aa, eJ, ab, aE, aZ, bG, b7, b5, aw _ _ _ dG⟩
 | ki f args u x =>
   obtain ⟨b9, cj, g, caps, ps, r, aa, eJ, ab, aE, aZ, bG, b7, b5, dG, gJ, fO⟩ := h
   exact ⟨b9, cj, g, caps, ps, r, aa, eJ, ab, aE, aZ, bG, b7, b5, dG, gJ, aw _ _ _ fO⟩
 | jg f args us =>
   obtain ⟨cj, g, caps, ps, r, aa, eJ, ab, aE, aZ, bG, b7, b5, dG, gJ⟩ := h
   exact ⟨cj, g, caps, ps, r, aa, eJ, ab, aE, aZ, bG, b7, b5, dG, aw _ _ _ gJ⟩
 | shr bd =>
   obtain ⟨av, s1, aa, ab, aE, aZ⟩ := h
   exact ⟨av, s1, aa, ab, aE, aw _ _ _ aZ⟩
 | _ =>
   obtain ⟨av, s1, aa, ab⟩ := h
   exact ⟨av, s1, aa, aw _ _ _ ab⟩
theorem Jq {s : ag} {o : cq} {K : ea → ag → Prop} {cK : ag → Prop} (aw : ∀ f s, K f s → cK s) (h : j3 C s o K) : jA C s o cK := by
 unfold j3 at h
 unfold jA
 split
 ·rename_i bH; rw [bH] at h; exact BT (fun _ _ _ => aw _ _) h
 ·rename_i t b bH
  rw [bH] at h
  simp only at h
  split
  ·rename_i ew U
   rw [U] at h
   simp only at h
   split
   ·rename_i J; rw [if_pos J] at h; exact BT (fun _ _ _ => aw _ _) h
   ·rename_i J; rw [if_neg J] at h; exact aw _ _ h
  ·rename_i U; rw [U] at h; exact aw _ _ h
  ·rename_i aa ab
   split at h
   ·exact aa _ (by assumption)
   ·exact ab (by assumption)
   ·exact h
theorem uB {K : ag → Prop} : ∀ {ros : List cq} {s : ag} {acc : Option (List ea)} {cK : Option (List ea) → ag → Prop}, (∀ a s, cK a s → K s) → bQ C s ros acc cK → jj C s ros K := by
 intro ros
 induction ros with
 | nil => intro s acc cK aw h; exact aw _ _ h
 | cons o ros ih => intro s acc cK aw h; exact Jq (fun f s h => ih aw h) h
theorem BU {q : List Nat} {a d : j} (h : j.sub q a = some d) (cT : q ≠ [] ∨ d.U = []) : a.U = [] := by
 cases q with
 | nil =>
   simp only [j.sub, Option.some.injEq] at h; subst h
   exact cT.resolve_left (fun e => e rfl)
 | cons k q => cases a <;> first | rfl | (simp [j.sub] at h)
def uC (s : ag) (p : b_) (e : j → Prop) : Prop := p.g = true → ∃ x q d, p.a = .h x q ∧ j.sub q (s x) = some d ∧ e d ∧ (p.o = .hole ∨ p.o.e9 = true)
theorem BV {d : j} (h : d.e9 = true) : d.U = [] := xN (nF h).2.1
theorem BW {d : j} (h : d.e9 = true) : d.cD.U = [] := by cases d <;> first | rfl | (simp [j.e9] at h)
theorem BX {p : b_} {ps : List b_} (h : gK (p :: ps) = true) : gK ps = true ∧ ∀ b2 ∈ ps, (p.g = true ∨ b2.g = true) → ∀ u ∈ p.a.U, u ∉ b2.a.U := by
 simp only [gK, Bool.and_eq_true, List.all_eq_true, Bool.or_eq_true, Bool.not_eq_true'] at h
 refine ⟨h.2, fun b2 dj bH u hu => ?_⟩
 rcases h.1 b2 dj with e | e
 ·rcases bH with bH | bH <;> simp [bH] at e
 ·simpa using e u hu
def nb (ps : List b_) : List Nat := j.c2 ((ps.filter (·.g)).map (·.a))
theorem qg (p : b_) (ps : List b_) : (∀ u ∈ nb ps, u ∈ nb (p :: ps)) ∧ (p.g = true → ∀ u ∈ p.a.U, u ∈ nb (p :: ps)) := by
 unfold nb
 by_cases bH : p.g = true
 ·simp only [List.filter_cons, bH, if_true, List.map_cons, j.c2, List.mem_append]
  exact ⟨fun u h => .inr h, fun _ u h => .inl h⟩
 ·simp only [List.filter_cons, bH]
  exact ⟨fun u h => h, fun h => by simp at h⟩
theorem Jr {p : b_} {ps : List b_} (h : p ∈ ps) : ∀ u ∈ p.a.U, u ∈ j.c2 (ps.map (·.a)) := by
 induction ps with
 | nil => cases h
 | cons b2 ps ih =>
   intro u hu
   simp only [List.map_cons, j.c2, List.mem_append]
   rcases List.mem_cons.1 h with rfl | h
   ·exact .inl hu
   ·exact .inr (ih h u hu)
theorem Js : ∀ (ps : List b_) (s : ag), (∀ p ∈ ps, uC s p (fun d => d = p.d ∧ p.d.e9 = true)) → gK ps = true →
  (∃ ms : List fh, (∀ m ∈ ms, m.x ∈ nb ps ∧ m.d.U = []) ∧ ∀ ak, c5 (j.c2 (ps.map (·.a))) ak s → dR ak ps = cL ms ak) ∧ ∀ p ∈ ps, uC (dR s ps) p (fun d => d = p.d.cD ∧ p.d.e9 = true) := by
 intro ps
 induction ps with
 | nil => intro s _ _; exact ⟨⟨[], by simp, fun ak _ => rfl⟩, fun p ao => by cases ao⟩
 | cons p ps ih =>
   intro s bH iX
   obtain ⟨l1, lq⟩ := BX iX
   by_cases j4 : p.g = true
   ·obtain ⟨x, q, d, b1, U, ⟨rfl, af⟩, bP⟩ := bH p (by simp) j4
    have iq : (j.put q p.d.cD (s x)).U = [] := r4 q _ _ _ U (.inl (nF af).1) fun _ => BW af
    have sm : ∀ ak : ag, ak x = s x → p.take ak = cL [⟨.bJ, x, j.put q p.d.cD (s x)⟩] ak := by
     intro ak e
     simp only [b_.take, j4, if_true, b1, e, r1]
    have cZ : ∀ b2 ∈ ps, ∀ cz hE, b2.a = .h cz hE → cz ≠ x := by
     intro b2 dj cz hE e eC
     have := lq b2 dj (.inl j4) x (by simp [b1, j.U])
     rw [e, eC] at this; simp [j.U] at this
    have nG : ∀ cz, cz ≠ x → (s cz).U = [] → cL [⟨.bJ, x, j.put q p.d.cD (s x)⟩] s cz = s cz := by
     intro cz rV bp
     simp only [cL, h6, fh.at]
     rw [if_neg rV]
     exact r3 (.inr (by rw [bp]; simp))
    obtain ⟨⟨ms, en, fl⟩, hb⟩ := ih (cL [⟨.bJ, x, j.put q p.d.cD (s x)⟩] s) (fun b2 dj yd => by
     obtain ⟨cz, hE, bj, oQ, fy, fA, sn⟩ := bH b2 (by simp [dj]) yd
     refine ⟨cz, hE, bj, oQ, ?_, fA, sn⟩
     rw [nG cz (cZ b2 dj cz hE oQ) (BU fy (.inr (by rw [fA.1]; exact BV fA.2)))]; exact fy) l1
    refine ⟨⟨[⟨.bJ, x, j.put q p.d.cD (s x)⟩] ++ ms, ?_, ?_⟩, ?_⟩
    ·intro m hm
     rcases List.mem_append.1 hm with hm | hm
     ·simp only [List.mem_singleton] at hm; subst hm
      exact ⟨(qg p ps).2 j4 x (by simp [b1, j.U]), iq⟩
     ·exact ⟨(qg p ps).1 _ (en m hm).1, (en m hm).2⟩
    ·intro ak fy
     simp only [List.map_cons, j.c2] at fy
     have e : ak x = s x := fy x (by simp [b1, j.U])
     rw [jy]
     show dR (p.take ak) ps = _
     rw [sm ak e]
     exact fl _ (c5.cL fy.right _)
    ·have aJ : dR s (p :: ps) = dR (cL [⟨.bJ, x, j.put q p.d.cD (s x)⟩] s) ps := by
      show dR (p.take s) ps = _
      rw [sm s rfl]
     rw [aJ]
     intro b2 dj
     rcases List.mem_cons.1 dj with rfl | dj
     ·intro _
      refine ⟨x, q, b2.d.cD, b1, ?_, ⟨rfl, af⟩, bP⟩
      have aG : cL [⟨.bJ, x, j.put q b2.d.cD (s x)⟩] s x = j.put q b2.d.cD (s x) := by
       simp only [cL, h6, fh.at, if_true]
      rw [xL (by rw [aG]; exact iq) (fun Jt Ju aaf => ?_), aG]
      ·exact Bd q _ _ _ U
      ·exact lq Jt Ju (.inl j4) x (by simp [b1, j.U])
     ·exact hb b2 dj
   ·have sm : ∀ ak : ag, p.take ak = ak := by intro ak; simp only [b_.take, j4]; rfl
    obtain ⟨⟨ms, en, fl⟩, hb⟩ := ih s (fun b2 dj => bH b2 (by simp [dj])) l1
    refine ⟨⟨ms, fun m hm => ⟨(qg p ps).1 _ (en m hm).1, (en m hm).2⟩, ?_⟩, ?_⟩
    ·intro ak fy
     simp only [List.map_cons, j.c2] at fy
     show dR (p.take ak) ps = _
     rw [sm]; exact fl ak fy.right
    ·intro b2 dj
     have aJ : dR s (p :: ps) = dR s ps := by show dR (p.take s) ps = _; rw [sm]
     rw [aJ]
     rcases List.mem_cons.1 dj with rfl | dj
     ·intro h; exact (j4 h).elim
     ·exact hb b2 dj
theorem Jv : ∀ (ps : List b_) (s : ag), (∀ p ∈ ps, uC s p (fun d => d = p.d.cD ∧ p.d.e9 = true)) → gK ps = true →
  (∃ ms : List fh, (∀ m ∈ ms, m.x ∈ nb ps ∧ m.d.U = []) ∧ ∀ ak, c5 (j.c2 (ps.map (·.a))) ak s → gf ak ps = cL ms ak) := by
 intro ps
 induction ps with
 | nil => intro s _ _; exact ⟨[], by simp, fun ak _ => rfl⟩
 | cons p ps ih =>
   intro s bH iX
   obtain ⟨l1, lq⟩ := BX iX
   by_cases j4 : p.g = true ∧ p.o ≠ .hole
   ·obtain ⟨j4, Jw⟩ := j4
    obtain ⟨x, q, d, b1, U, ⟨rfl, af⟩, bP⟩ := bH p (by simp) j4
    have bP : p.o.e9 = true := bP.resolve_left Jw
    have iq : (j.put q p.o (s x)).U = [] := by
     cases q with
     | nil => simp only [j.put]; exact BV bP
     | cons k q => exact r4 _ _ _ _ U (.inr (by simp)) (by simp)
    have ye : ∀ ak : ag, ak x = s x → p.ht ak = cL [⟨.ca, x, j.put q p.o (s x)⟩] ak := by
     intro ak e
     simp only [b_.ht, j4, if_true, b1]
     rw [e, AZ]
    have cZ : ∀ b2 ∈ ps, ∀ cz hE, b2.a = .h cz hE → cz ≠ x := by
     intro b2 dj cz hE e eC
     have := lq b2 dj (.inl j4) x (by simp [b1, j.U])
     rw [e, eC] at this; simp [j.U] at this
    obtain ⟨ms, en, fl⟩ := ih (cL [⟨.ca, x, j.put q p.o (s x)⟩] s) (fun b2 dj yd => by
     obtain ⟨cz, hE, bj, oQ, fy, fA, sn⟩ := bH b2 (by simp [dj]) yd
     refine ⟨cz, hE, bj, oQ, ?_, fA, sn⟩
     have bp := BU fy (.inr (by rw [fA.1]; exact BW fA.2))
     have nG : cL [⟨.ca, x, j.put q p.o (s x)⟩] s cz = s cz := by
      simp only [cL, h6, fh.at]
      rw [if_neg (cZ b2 dj cz hE oQ)]
      exact r3 (.inr (by rw [bp]; simp))
     rw [nG]; exact fy) l1
    refine ⟨[⟨.ca, x, j.put q p.o (s x)⟩] ++ ms, ?_, ?_⟩
    ·intro m hm
     rcases List.mem_append.1 hm with hm | hm
     ·simp only [List.mem_singleton] at hm; subst hm
      exact ⟨(qg p ps).2 j4 x (by simp [b1, j.U]), iq⟩
     ·exact ⟨(qg p ps).1 _ (en m hm).1, (en m hm).2⟩
    ·intro ak fy
     simp only [List.map_cons, j.c2] at fy
     have e : ak x = s x := fy x (by simp [b1, j.U])
     rw [jy]
     show gf (p.ht ak) ps = _
     rw [ye ak e]
     exact fl _ (c5.cL fy.right _)
   ·have ye : ∀ ak : ag, p.ht ak = ak := by
     intro ak
     unfold b_.ht
     split
     ·rename_i fR
      have : p.o = .hole := by
       by_cases h : p.o = .hole
       ·exact h
       ·exact (j4 ⟨fR, h⟩).elim
      rw [this]
     ·rfl
    obtain ⟨ms, en, fl⟩ := ih s (fun b2 dj => bH b2 (by simp [dj])) l1
    refine ⟨ms, fun m hm => ⟨(qg p ps).1 _ (en m hm).1, (en m hm).2⟩, ?_⟩
    intro ak fy
    simp only [List.map_cons, j.c2] at fy
    show gf (p.ht ak) ps = _
    rw [ye]; exact fl ak fy.right
theorem Jx {s ak : ag} : ∀ (a : j) (d : j), c5 a.U ak s → view s a = some d → view ak a = some d := by
 intro a d h
 have := xO (s := s) (ak := ak) a d
 intro aG
 cases a with
 | h x q => simp only [view] at aG ⊢; rw [h x (by simp [j.U])]; exact aG
 | ao x q => simp only [view] at aG ⊢; rw [h x (by simp [j.U])]; exact aG
 | fn f cap =>
   refine this (fun u hu _ => h u hu) aG
 | _ => exact aG
theorem Jy {p : b_} {s ak : ag} (h : c5 p.a.U ak s) (fi : p.ok s) : p.ok ak := by
 unfold b_.ok at fi ⊢
 split
 ·rename_i bH
  rw [if_pos bH] at fi
  cases b1 : p.a with
  | h x q =>
    rw [b1] at fi
    simp only at fi ⊢
    rw [h x (by simp [b1, j.U])]; exact fi
  | _ => rw [b1] at fi; exact fi.elim
 ·rename_i bH
  rw [if_neg bH] at fi
  exact Jx _ _ h fi
def uD (C : bN) (o : cq) (s : ag) (iN : ea) (ms : List fh) : Prop :=
 (∀ ak, c5 iN.bn ak s → ∀ K : ag → Prop, K (cL ms ak) → jA C ak o K) ∧ (∀ m ∈ ms, m.x ∈ iN.T ∧ ∀ u ∈ m.d.U, u ∈ iN.H) ∧ (∀ u ∈ iN.bn, ∀ x ∈ (s u).U, x ∈ iN.H) ∧ (iN.c = true → ∀ u ∈ iN.bn, (s u).clean = true)
theorem BZ (dst : Option Nat) (av : j) : ∃ ms : List fh, (∀ m ∈ ms, m.x ∈ dst.toList ∧ m.d = av) ∧ ∀ s1 : ag, fin s1 dst av = cL ms s1 := by
 cases dst with
 | none => exact ⟨[], by simp, fun s => rfl⟩
 | some t =>
   simp only [fin]
   by_cases h : av.plain = true
   ·exact ⟨[⟨.no, t, av⟩], by simp, fun s => by rw [if_pos h, xy]⟩
   ·exact ⟨[⟨.ca, t, av⟩], by simp, fun s => by rw [if_neg h, AZ]⟩
theorem uE {s : ag} {bn : List Nat} {dst : Option Nat} {cd : List Nat} {av : j} : (∀ u ∈ (hg s bn dst cd av).bn, ∀ x ∈ (s u).U, x ∈ (hg s bn dst cd av).H) ∧ ((hg s bn dst cd av).c = true → ∀ u ∈ (hg s bn dst cd av).bn, (s u).clean = true) := by
 refine ⟨fun u hu x ai => ?_, fun aj => ?_⟩
 ·simp only [hg, List.mem_append, List.mem_flatMap]; exact .inl ⟨u, hu, ai⟩
 ·simp only [hg, List.all_eq_true] at aj; exact aj
theorem yf {s : ag} {f : ax} {args : List ax} {K : List Nat → j → ag → Prop} (h : yc C s f args K) :
  ∃ cd av ms, K cd av (cL ms s) ∧ (∀ m ∈ ms, m.x ∈ cd ∧ m.d.U = []) ∧ ∀ ak, c5 (use s (.call f args)) ak s → ∀ cK : j → ag → Prop, cK av (cL ms ak) → ur C ak f args cK := by
 obtain ⟨g, caps, ps, r, aa, eJ, ab, aE, aZ, bG, b7, b5, dG⟩ := h
 have Jz : ∀ p ∈ ps, uC s p (fun d => d = p.d ∧ p.d.e9 = true) := by
  intro p ao bH
  have := aE p ao
  simp only [b_.ok, bH, if_true] at this
  cases b1 : p.a with
  | h x q => rw [b1] at this; exact ⟨x, q, p.d, rfl, this.1, ⟨rfl, this.2.1⟩, this.2.2.imp id fun h => h.1⟩
  | _ => rw [b1] at this; exact this.elim
 obtain ⟨⟨l0, ah, cC⟩, a3⟩ := Js ps s Jz aZ
 obtain ⟨oO, jx, hs⟩ := Jv ps (dR s ps) a3 aZ
 have mz : ∀ u ∈ j.c2 (ps.map (·.a)), u ∈ use s (.call f args) := by
  rw [ab]
  intro u hu
  simp only [use, List.mem_append]
  have key : ∀ (gB l2 : List j), u ∈ j.c2 (gB ++ l2) → u ∈ j.c2 gB ∨ u ∈ j.c2 l2 := by
   intro gB
   induction gB with
   | nil => intro l2 h; exact .inr h
   | cons a gB ih =>
     intro l2 h
     simp only [List.cons_append, j.c2, List.mem_append] at h ⊢
     rcases h with h | h
     ·exact .inl (.inl h)
     ·exact (ih l2 h).imp .inr id
  rcases key _ _ hu with hu | hu
  ·exact .inr (ax.ui u hu)
  ·refine .inl (ax.oM u ?_)
   rw [aa]; exact hu
 have fE : gf (dR s ps) ps = cL (l0 ++ oO) s := by
  rw [jy, ← cC s (fun _ _ => rfl), hs _ (fun _ _ => rfl)]
 refine ⟨nb ps, r, l0 ++ oO, by rw [← fE]; exact dG, ?_, ?_⟩
 ·intro m hm
  rcases List.mem_append.1 hm with hm | hm
  ·exact ah m hm
  ·exact jx m hm
 ·intro ak U cK aw
  have m7 : c5 (j.c2 (ps.map (·.a))) ak s := U.sub mz
  have bL : c5 (f.use s) ak s := by simp only [use] at U; exact U.left
  have ai : c5 (ax.lp s args) ak s := by simp only [use] at U; exact U.right
  have aJ : gf (dR ak ps) ps = cL (l0 ++ oO) ak := by
   rw [jy, ← cC ak m7, hs]
   rw [cC ak m7, cC s (fun _ _ => rfl)]
   exact c5.cL m7 _
  exact ⟨g, caps, ps, r, by rw [ax.fe bL]; exact aa, eJ, by rw [ax.xC ai]; exact ab, fun p ao => Jy (m7.sub (Jr ao)) (aE p ao), aZ, bG, b7, b5, by rw [aJ]; exact aw⟩
mutual
theorem B0 {s ak : ag} : ∀ (d : j), c5 d.U ak s → d.eo ak = d.eo s
 | .h x q, h => by simp only [j.eo]; rw [h x (by simp [j.U])]
 | .J x q, h => by simp only [j.eo]; rw [h x (by simp [j.U])]
 | .fn f cap, h => by simp only [j.eo]; exact B1 cap (by simpa only [j.U] using h)
 | .ao _ _, _ => by simp only [j.eo]
 | .hole, _ => by simp only [j.eo]
 | .bool _, _ => by simp only [j.eo]
 | .dO, _ => by simp only [j.eo]
 | .int _ _, _ => by simp only [j.eo]
 | .str _, _ => by simp only [j.eo]
 | .cW, _ => by simp only [j.eo]
 | .a_, _ => by simp only [j.eo]
 | .slice _, _ => by simp only [j.eo]
 | .ay _ _, _ => by simp only [j.eo]
 | .ref _, _ => by simp only [j.eo]
 | .bD _, _ => by simp only [j.eo]
 | .agg _, _ => by simp only [j.eo]
 | .tuple _, _ => by simp only [j.eo]
theorem B1 {s ak : ag} : ∀ (ds : List j), c5 (j.c2 ds) ak s → j.lu ak ds = j.lu s ds
 | [], _ => rfl
 | d :: ds, h => by
   simp only [j.c2] at h
   simp only [j.lu]; rw [B0 d h.left, B1 ds h.right]
end
theorem yg {s ak : ag} {us : List Nat} (h : c5 (us.flatMap fun u => u :: (s u).U) ak s) : hx ak us = hx s us := by
 unfold hx
 refine List.map_congr_left fun u hu => ?_
 rw [h u (List.mem_flatMap.2 ⟨u, hu, by simp⟩)]
theorem yh {s ak : ag} : ∀ (L : List (Nat × j)), (∀ p ∈ L, c5 p.2.U ak s) → ji ak L = ji s L
 | [], _ => rfl
 | p :: L, h => by
   simp only [ji]; rw [B0 p.2 (h p (by simp)), yh L (fun q cT => h q (by simp [cT]))]
theorem B2 : ∀ (L : List (Nat × j)) (s : ag), kl s L = cL (L.map fun p => ⟨.no, p.1, p.2⟩) s
 | [], s => rfl
 | p :: L, s => by
   simp only [kl, List.map_cons]
   rw [B2 L, xy]
   exact (jy [⟨.no, p.1, p.2⟩] _ s).symm
theorem JA {s : ag} {bd : eD} {K : List Nat → j → ag → Prop} (h : kJ C s bd K) :
  ∃ cd av ms, K cd av (cL ms s) ∧ (∀ m ∈ ms, m.x ∈ cd ∧ ∀ v ∈ m.d.U, ∃ u ∈ use s bd, v ∈ (s u).U) ∧ ∀ ak, c5 (use s bd) ak s → ∀ cK : j → ag → Prop, cK av (cL ms ak) → lv C ak bd cK := by
 have plain : (∃ av s1, br C s bd = some (av, s1) ∧ K (cH s bd) av s1) → (∀ ak (cK : j → ag → Prop) av s1, br C ak bd = some (av, s1) → cK av s1 → lv C ak bd cK) →
   ∃ cd av ms, K cd av (cL ms s) ∧ (∀ m ∈ ms, m.x ∈ cd ∧ ∀ v ∈ m.d.U, ∃ u ∈ use s bd, v ∈ (s u).U) ∧ ∀ ak, c5 (use s bd) ak s → ∀ cK : j → ag → Prop, cK av (cL ms ak) → lv C ak bd cK := by
  rintro ⟨av, s1, aa, ab⟩ hw
  obtain ⟨ms, aJ, aT, bb⟩ := Bc aa
  subst aJ
  exact ⟨_, av, ms, ab, fun m hm => ⟨(aT m hm).1, fun v aG => by rw [(aT m hm).2] at aG; cases aG⟩, fun ak U cK aw => hw ak cK av _ (bb ak U) aw⟩
 cases bd with
 | call f args =>
   obtain ⟨cd, av, ms, ah, cC, a3⟩ := yf h
   exact ⟨cd, av, ms, ah, fun m hm => ⟨(cC m hm).1, fun v aG => by rw [(cC m hm).2] at aG; cases aG⟩, fun ak U cK aw => a3 ak U cK aw⟩
 | ki f args u x =>
   obtain ⟨b9, cj, aj⟩ := h
   obtain ⟨cd, av, ms, ⟨ah, yi, JB⟩, cC, a3⟩ := yf aj
   have e : ∀ s : ag, cS (cL ms s) u (.h x []) = cL (ms ++ [⟨.no, u, .h x []⟩]) s := fun s => by rw [jy, ← xy]
   refine ⟨u :: cd, av, ms ++ [⟨.no, u, .h x []⟩], by rw [← e]; exact JB, ?_, ?_⟩
   ·intro m hm
    rcases List.mem_append.1 hm with hm | hm
    ·exact ⟨by simp [(cC m hm).1], fun v aG => by rw [(cC m hm).2] at aG; cases aG⟩
    ·simp only [List.mem_singleton] at hm; subst hm
     refine ⟨by simp, fun v aG => ⟨u, by simp [use], ?_⟩⟩
     rw [b9]; exact aG
   ·intro ak U cK aw
    have B3 : ak u = s u := U u (by simp [use])
    have ex : ak x = s x := U x (by simp [use])
    refine ⟨by rw [B3]; exact b9, by rw [ex]; exact cj, a3 ak (fun y bC => U y (by simp only [use, List.mem_cons] at bC ⊢; exact .inr (.inr bC))) _ ⟨?_, ?_, ?_⟩⟩
    ·have := ah; simp only [cL] at this ⊢; rw [B3]; exact this
    ·have := yi; simp only [cL] at this ⊢; rw [ex]; exact this
    ·rw [e]; exact aw
 | jg f args us =>
   obtain ⟨cj, aj⟩ := h
   obtain ⟨cd, av, ms, ⟨ah, yi⟩, cC, a3⟩ := yf aj
   have e : ∀ ak : ag, kl (cL ms ak) (hx s us) = cL (ms ++ (hx s us).map fun p => ⟨.no, p.1, p.2⟩) ak := fun ak => by rw [jy, B2]
   have kd : ∀ {ak : ag}, c5 (us.flatMap fun u => u :: (s u).U) ak s → ∀ p ∈ hx s us, c5 p.2.U ak s := fun {ak} U p ao v aG => by
    obtain ⟨u, hu, rfl⟩ := List.mem_map.1 ao
    exact U v (List.mem_flatMap.2 ⟨u, hu, by simp [aG]⟩)
   refine ⟨us ++ cd, av, ms ++ (hx s us).map fun p => ⟨.no, p.1, p.2⟩, by rw [← e]; exact yi, ?_, ?_⟩
   ·intro m hm
    rcases List.mem_append.1 hm with hm | hm
    ·exact ⟨by simp [(cC m hm).1], fun v aG => by rw [(cC m hm).2] at aG; cases aG⟩
    ·obtain ⟨p, ao, rfl⟩ := List.mem_map.1 hm
     obtain ⟨u, hu, rfl⟩ := List.mem_map.1 ao
     exact ⟨List.mem_append_left _ hu, fun v aG => ⟨u, by simp only [use, List.mem_append, List.mem_flatMap]; exact .inl ⟨u, hu, by simp⟩, aG⟩⟩
   ·intro ak U cK aw
    simp only [use] at U
    refine ⟨by rw [yg U.left, yh _ (kd U.left)]; exact cj, a3 ak U.right _ ⟨?_, ?_⟩⟩
    ·rw [yg U.left, yh _ (fun p ao => (kd U.left p ao).cL ms)]; exact ah
    ·rw [yg U.left, e]; exact aw
 | shr bd =>
   obtain ⟨av, s1, aa, ab, aE, aZ⟩ := h
   obtain ⟨ms, aJ, aT, bb⟩ := Bc aa
   subst aJ
   exact ⟨_, av.share, ms, aZ, fun m hm => ⟨(aT m hm).1, fun v aG => by rw [(aT m hm).2] at aG; cases aG⟩, fun ak U cK aw => ⟨av, _, bb ak U, ab, aE, aw⟩⟩
 | _ => exact plain h (fun ak cK av s1 aa ab => ⟨av, s1, aa, ab⟩)
theorem JC {s : ag} {o : cq} {K : ea → ag → Prop} (h : j3 C s o K) : ∃ iN ms, K iN (cL ms s) ∧ uD C o s iN ms := by
 have op : ∀ (bn : List Nat), (∀ u ∈ use s o.bd, u ∈ bn) → (∀ ak, c5 bn ak s → ∀ cK : ag → Prop, lv C ak o.bd (fun av s1 => cK (fin s1 o.dst av)) → jA C ak o cK) →
   kJ C s o.bd (fun cd av s1 => K (hg s bn o.dst cd av) (fin s1 o.dst av)) → ∃ iN ms, K iN (cL ms s) ∧ uD C o s iN ms := by
  intro bn mz hO hw
  obtain ⟨cd, av, ms, aa, ab, aE⟩ := JA hw
  obtain ⟨iY, ly, cI⟩ := BZ o.dst av
  refine ⟨hg s bn o.dst cd av, ms ++ iY, ?_, ?_, ?_, uE.1, uE.2⟩
  ·rw [jy, ← cI]; exact aa
  ·intro ak U cK aw
   refine hO ak U cK (aE ak (U.sub mz) _ ?_)
   rw [cI, ← jy]; exact aw
  ·intro m hm
   simp only [hg, List.mem_append]
   rcases List.mem_append.1 hm with hm | hm
   ·refine ⟨.inr (ab m hm).1, fun v aG => .inl ?_⟩
    obtain ⟨u, hu, jU⟩ := (ab m hm).2 v aG
    exact List.mem_flatMap.2 ⟨u, mz u hu, jU⟩
   ·exact ⟨.inl (ly m hm).1, fun u hu => .inr (by rw [(ly m hm).2] at hu; exact hu)⟩
 have skip : ∀ t, (∀ ak, c5 [t] ak s → ∀ cK : ag → Prop, cK (fin ak o.dst (.tuple [])) → jA C ak o cK) → K (hg s [t] o.dst [] (.tuple [])) (fin s o.dst (.tuple [])) → ∃ iN ms, K iN (cL ms s) ∧ uD C o s iN ms := by
  intro t hO aw
  obtain ⟨iY, ly, cI⟩ := BZ o.dst (.tuple [])
  refine ⟨_, iY, by rw [← cI]; exact aw, ?_, ?_, uE.1, uE.2⟩
  ·intro ak U cK jw
   exact hO ak U cK (by rw [cI]; exact jw)
  ·intro m hm
   simp only [hg, List.mem_append]
   exact ⟨.inl (ly m hm).1, fun u hu => by rw [(ly m hm).2] at hu; simp [j.U] at hu⟩
 unfold j3 at h
 split at h
 ·rename_i bH
  exact op _ (fun _ h => h) (fun ak _ cK hw => by unfold jA; rw [bH]; exact hw) h
 ·rename_i t b bH
  split at h
  ·rename_i ew J
   split at h
   ·rename_i e
    refine op (t :: use s o.bd) (fun u hu => by simp [hu]) (fun ak U cK hw => ?_) h
    have : ak t = s t := U t (by simp)
    unfold jA
    rw [bH]
    simp only [this, J, if_pos e]
    exact hw
   ·rename_i e
    refine skip t (fun ak U cK aw => ?_) h
    have : ak t = s t := U t (by simp)
    unfold jA
    rw [bH]
    simp only [this, J, if_neg e]
    exact aw
  ·rename_i J
   refine skip t (fun ak U cK aw => ?_) h
   have : ak t = s t := U t (by simp)
   unfold jA
   rw [bH]
   simp only [this, J]
   exact aw
  ·exact h.elim
def nO (C : bN) (ros : List cq) : ag → List (Nat × ea × List fh) → Prop
 | _, [] => True
 | s, e :: r => (∃ o, ros[e.1]? = some o ∧ uD C o s e.2.1 e.2.2) ∧ nO C ros (cL e.2.2 s) r
def l9 (s : ag) (r : List (Nat × ea × List fh)) : ag := r.foldl (fun s e => cL e.2.2 s) s
def lk (a b : List Nat) : Bool := a.all fun x => !b.contains x
theorem qh {a b : List Nat} (h : lk a b = true) : ∀ x ∈ a, x ∉ b := by
 intro x ai
 simp only [lk, List.all_eq_true] at h
 simpa using h x ai
def oY (a b : ea) : Bool := lk b.T a.bn && lk b.T a.H && lk b.T a.T && lk a.T b.bn && lk a.T b.H && b.c
theorem JD {ros : List cq} {s : ag} {a b : Nat × ea × List fh} {r : List (Nat × ea × List fh)} (h : nO C ros s (a :: b :: r)) (az : oY a.2.1 b.2.1 = true) :
  nO C ros s (b :: a :: r) ∧ l9 s (b :: a :: r) = l9 s (a :: b :: r) := by
 obtain ⟨⟨JE, b1, ah, cC, a3, a4⟩, ⟨JF, J, jx, hs, hS, bX⟩, aO⟩ := h
 simp only [oY, Bool.and_eq_true] at az
 obtain ⟨⟨⟨⟨⟨lT, ka⟩, wK⟩, JG⟩, wL⟩, wM⟩ := az
 have yj : ∀ u ∈ b.2.1.bn, cL a.2.2 s u = s u := by
  intro u hu
  refine Jm _ _ _ (fun m hm e => ?_) (bX wM u hu)
  exact qh JG m.x (cC m hm).1 (e ▸ hu)
 have yk : ∀ u ∈ a.2.1.bn, cL b.2.2 s u = s u := by
  intro u hu
  refine Jn _ _ _ fun m hm => ⟨fun e => ?_, fun ai => ?_⟩
  ·exact qh lT m.x (hs m hm).1 (e ▸ hu)
  ·exact qh ka m.x (hs m hm).1 (a3 u hu _ ai)
 have B4 : cL b.2.2 (cL a.2.2 s) = cL a.2.2 (cL b.2.2 s) := by
  refine Jp _ _ _ fun m hm n bh => ⟨fun e => ?_, fun h => ?_, fun h => ?_⟩
  ·exact qh wK n.x (hs n bh).1 (e ▸ (cC m hm).1)
  ·exact qh ka n.x (hs n bh).1 ((cC m hm).2 _ h)
  ·exact qh wL m.x (cC m hm).1 ((hs n bh).2 _ h)
 refine ⟨⟨⟨JF, J, ?_, hs, ?_, ?_⟩, ⟨JE, b1, ?_, cC, ?_, ?_⟩, ?_⟩, ?_⟩
 ·intro ak U K aw
  exact jx ak (fun u hu => (U u hu).trans (yj u hu).symm) K aw
 ·intro u hu x ai
  exact hS u hu x (by rw [yj u hu]; exact ai)
 ·intro aj u hu
  have := bX aj u hu
  rwa [yj u hu] at this
 ·intro ak U K aw
  exact ah ak (fun u hu => (U u hu).trans (yk u hu)) K aw
 ·intro u hu x ai
  rw [yk u hu] at ai
  exact a3 u hu x ai
 ·intro aj u hu
  rw [yk u hu]
  exact a4 aj u hu
 ·rw [← B4]; exact aO
 ·simp only [l9, List.foldl_cons]
  rw [B4]
theorem JH {ros : List cq} {e : Nat × ea × List fh} {post : List (Nat × ea × List fh)} : ∀ (pre : List (Nat × ea × List fh)) (s : ag), nO C ros s (pre ++ e :: post) → (∀ a ∈ pre, oY a.2.1 e.2.1 = true) →
  nO C ros s (e :: (pre ++ post)) ∧ l9 s (e :: (pre ++ post)) = l9 s (pre ++ e :: post) := by
 intro pre
 induction pre with
 | nil => intro s h _; exact ⟨h, rfl⟩
 | cons a pre ih =>
   intro s h az
   obtain ⟨aa, ab⟩ := h
   obtain ⟨aV, bo⟩ := ih _ ab fun b J => az b (by simp [J])
   have aj : nO C ros s (a :: e :: (pre ++ post)) := ⟨aa, aV⟩
   obtain ⟨b9, cj⟩ := JD aj (az a (by simp))
   refine ⟨b9, cj.trans ?_⟩
   simp only [l9, List.foldl_cons, List.cons_append] at bo ⊢
   exact bo
end
def so : List (List Nat) → List (List Nat) → List (List Nat)
 | done, [] => done
 | done, a :: r => so (done ++ [a ++ a.flatMap fun e => (done[e]?).getD []]) r
def qi (fu : List (List Nat)) : List (List Nat) := so [] fu
theorem JI {fu : List (List Nat)} {l : List Nat} (hl : ∀ u i v, l = u ++ i :: v → ∀ e ∈ (fu[i]?).getD [], e ∈ u) : ∀ (rest pre done : List (List Nat)), fu = pre ++ rest → done.length = pre.length →
  (∀ u i v, l = u ++ i :: v → ∀ e ∈ (done[i]?).getD [], e ∈ u) → ∀ u i v, l = u ++ i :: v → ∀ e ∈ ((so done rest)[i]?).getD [], e ∈ u := by
 intro rest
 induction rest with
 | nil => intro pre done _ _ h; exact h
 | cons a rest ih =>
   intro pre done B5 hlen h
   simp only [so]
   refine ih (pre ++ [a]) _ (by simp [B5]) (by simp [hlen]) ?_
   intro u i v hu e he
   by_cases az : i < done.length
   ·rw [List.getElem?_append_left az] at he
    exact h u i v hu e he
   ·rw [List.getElem?_append_right (by omega)] at he
    by_cases oK : i - done.length = 0
    ·rw [oK] at he
     simp only [List.getElem?_cons_zero, Option.getD_some, List.mem_append, List.mem_flatMap] at he
     have B6 : (fu[i]?).getD [] = a := by
      have : i = pre.length := by omega
      rw [B5, this, List.getElem?_append_right (Nat.le_refl _)]; simp
     rcases he with he | ⟨eC, x4, he⟩
     ·exact hl u i v hu e (by rw [B6]; exact he)
     ·have r7 := hl u i v hu eC (by rw [B6]; exact x4)
      obtain ⟨AK, AL, rfl⟩ := List.append_of_mem r7
      have := h AK eC (AL ++ i :: v) (by rw [hu]; simp) e he
      simp [this]
    ·rw [List.getElem?_eq_none (by simp; omega)] at he
     simp at he
theorem JJ {fu : List (List Nat)} {l : List Nat} (hl : ∀ u i v, l = u ++ i :: v → ∀ e ∈ (fu[i]?).getD [], e ∈ u) : ∀ u i v, l = u ++ i :: v → ∀ e ∈ ((qi fu)[i]?).getD [], e ∈ u :=
 JI hl fu [] [] rfl rfl fun u i v _ e he => by simp at he
def km (kn : List (List Nat)) : Nat → List (Nat × ea) → List ea → Bool
 | _, _, [] => true
 | ar, es, f :: al => (es.all fun e => ((kn[ar]?).getD []).contains e.1 || oY e.2 f) && km kn (ar + 1) ((ar, f) :: es) al
def yl (kn : List (List Nat)) (a b : Nat × ea × List fh) : Prop := a.1 ∈ (kn[b.1]?).getD [] ∨ oY a.2.1 b.2.1 = true
theorem JK {kn : List (List Nat)} : ∀ (fF : List (Nat × ea × List fh)) (ar : Nat) (es : List (Nat × ea)), fF.map (·.1) = (List.range fF.length).map (· + ar) → km kn ar es (fF.map (·.2.1)) = true →
  fF.Pairwise (yl kn) ∧ ∀ e ∈ es, ∀ b ∈ fF, e.1 ∈ (kn[b.1]?).getD [] ∨ oY e.2 b.2.1 = true := by
 intro fF
 induction fF with
 | nil => intro ar es _ _; exact ⟨.nil, fun e _ b J => by cases J⟩
 | cons a fF ih =>
   intro ar es oZ fi
   rw [List.length_cons, List.range_succ_eq_map, List.map_cons, List.map_cons, List.map_map] at oZ
   simp only [List.cons.injEq, Nat.zero_add] at oZ
   obtain ⟨cc, oZ⟩ := oZ
   simp only [List.map_cons, km, Bool.and_eq_true, List.all_eq_true, Bool.or_eq_true] at fi
   obtain ⟨aa, ab⟩ := fi
   obtain ⟨aV, bo⟩ := ih (ar + 1) _ (by rw [oZ]; congr 1; funext x; simp; omega) ab
   refine ⟨.cons (fun b J => ?_) aV, fun e he b J => ?_⟩
   ·have := bo (ar, a.2.1) (by simp) b J
    simp only [yl, cc]; exact this
   ·rcases List.mem_cons.1 J with rfl | J
    ·rw [cc]
     exact (aa e he).imp (fun h => by simpa using h) id
    ·exact bo e (by simp [he]) b J
section
variable {C : bN}
theorem JL {K : Option (List ea) → ag → Prop} : ∀ (os pre : List cq) (s : ag) (acc : List ea), bQ C s os (some acc) K →
  ∃ fF, nO C (pre ++ os) s fF ∧ fF.map (·.1) = (List.range os.length).map (· + pre.length) ∧ K (some ((fF.map (·.2.1)).reverse ++ acc)) (l9 s fF) := by
 intro os
 induction os with
 | nil => intro pre s acc h; exact ⟨[], trivial, rfl, h⟩
 | cons o os ih =>
   intro pre s acc h
   obtain ⟨iN, ms, aa, ab⟩ := JC h
   obtain ⟨fF, aV, bo, b8⟩ := ih (pre ++ [o]) _ (iN :: acc) aa
   refine ⟨(pre.length, iN, ms) :: fF, ⟨⟨o, ?_, ab⟩, ?_⟩, ?_, ?_⟩
   ·rw [List.getElem?_append_right (Nat.le_refl _)]; simp
   ·simpa using aV
   ·rw [List.length_cons, List.range_succ_eq_map, List.map_cons, List.map_cons, List.map_map, bo]
    simp only [List.cons.injEq, Nat.zero_add, true_and]
    congr 1; funext x; simp; omega
   ·simpa [l9] using b8
theorem JM {ros : List cq} {kn : List (List Nat)} {K : ag → Prop} : ∀ (l : List Nat) (fF : List (Nat × ea × List fh)) (s : ag), nO C ros s fF → fF.Pairwise (yl kn) → l.Nodup → (fF.map (·.1)).Nodup →
  (∀ i, i ∈ l ↔ i ∈ fF.map (·.1)) → (∀ u i v, l = u ++ i :: v → ∀ e ∈ (kn[i]?).getD [], e ∈ fF.map (·.1) → e ∈ u) → K (l9 s fF) → h8 C ros s l K := by
 intro l
 induction l with
 | nil =>
   intro fF s _ _ _ _ hm _ aw
   cases fF with
   | nil => exact aw
   | cons e fF => have := (hm e.1).2 (by simp); cases this
 | cons i l ih =>
   intro fF s aj ao bh rZ hm bP aw
   obtain ⟨e, he, az⟩ := List.mem_map.1 ((hm i).1 (by simp))
   obtain ⟨pre, post, rfl⟩ := List.append_of_mem he
   have JN : ∀ a ∈ pre, oY a.2.1 e.2.1 = true := by
    intro a b1
    have aO := (List.pairwise_append.1 ao).2.2 a b1 e (by simp)
    rcases aO with aO | aO
    ·rw [az] at aO
     have := bP [] i l rfl a.1 aO (by simp only [List.map_append, List.mem_append, List.mem_map]; exact .inl ⟨a, b1, rfl⟩)
     cases this
    ·exact aO
   obtain ⟨aV, bo⟩ := JH pre s aj JN
   obtain ⟨⟨o, JO, JP⟩, b8⟩ := aV
   have B7 : i ∉ (pre ++ post).map (·.1) := by
    have : (pre.map (·.1) ++ e.1 :: post.map (·.1)).Nodup := by simpa using rZ
    have bq := (List.perm_middle.nodup_iff.1 this)
    rw [List.nodup_cons] at bq
    rw [← az]; simpa using bq.1
   simp only [h8]
   rw [← az, JO]
   refine JP.1 s (fun _ _ => rfl) _ ?_
   rw [List.nodup_cons] at bh
   refine ih (pre ++ post) _ b8 ?_ bh.2 ?_ ?_ ?_ ?_
   ·exact ao.sublist ((List.Sublist.refl pre).append (List.sublist_cons_self e post))
   ·have : (pre.map (·.1) ++ e.1 :: post.map (·.1)).Nodup := by simpa using rZ
    have bq := (List.perm_middle.nodup_iff.1 this)
    rw [List.nodup_cons] at bq
    simpa using bq.2
   ·intro ar
    constructor
    ·intro cc
     have aa := (hm ar).1 (by simp [cc])
     simp only [List.map_append, List.map_cons, List.mem_append, List.mem_cons] at aa ⊢
     rcases aa with aa | rfl | aa
     ·exact .inl aa
     ·exact (bh.1 (az ▸ cc)).elim
     ·exact .inr aa
    ·intro cc
     have aa := (hm ar).2 (by
      simp only [List.map_append, List.map_cons, List.mem_append, List.mem_cons] at cc ⊢
      exact cc.imp id .inr)
     rcases List.mem_cons.1 aa with rfl | aa
     ·exact (B7 cc).elim
     ·exact aa
   ·intro u ar v hu x ai ym
    have aa := bP (i :: u) ar v (by rw [hu]; rfl) x ai (by
     simp only [List.map_append, List.map_cons, List.mem_append, List.mem_cons] at ym ⊢
     exact ym.imp id .inr)
    rcases List.mem_cons.1 aa with rfl | aa
    ·exact (B7 ym).elim
    ·exact aa
   ·have : l9 s (e :: (pre ++ post)) = l9 (cL e.2.2 s) (pre ++ post) := rfl
    rw [← this, bo]; exact aw
theorem JQ {ros : List cq} {fu : List (List Nat)} {s : ag} {K : ag → Prop} (hlen : fu.length = ros.length)
  (h : bQ C s ros (some []) (fun acc s => km (qi fu) 0 [] (acc.getD []).reverse = true ∧ K s)) : ∀ l, x2 fu l → h8 C ros s l K := by
 intro l ⟨gB, l2, xS⟩
 obtain ⟨fF, aV, bo, b8, dn⟩ := JL ros [] s [] h
 simp only [List.nil_append, List.append_nil, List.length_nil, Option.getD_some, List.reverse_reverse] at aV bo b8
 have hl : fF.length = ros.length := by have := congrArg List.length bo; simpa using this
 have oZ : fF.map (·.1) = (List.range fF.length).map (· + 0) := by rw [bo, hl]
 have aO : fF.map (·.1) = List.range ros.length := by rw [bo]; simp
 obtain ⟨fI, _⟩ := JK fF 0 [] oZ b8
 refine JM l fF s aV fI gB (by rw [aO]; exact List.nodup_range) (fun i => ?_) (fun u i v hu e he _ => JJ xS u i v hu e he) dn
 rw [aO, l2, hlen, List.mem_range]
end
def cO (C : bN) (dst : Option Nat) (os : List cq) (K : Option (List ea) → ag → Prop) : Option (j × ag) → Prop
 | some (av, s1) => bQ C (fin s1 dst av) os none K
 | none => False
def cU (C : bN) (l : List (Nat × j)) (bn cd : List Nat) (dst : Option Nat) (os : List cq) (a : List ea) (K : Option (List ea) → ag → Prop) : Option (j × ag) → Prop
 | some (av, s1) => bQ C (fin s1 dst av) os (some (hg (I l) bn dst cd av :: a)) K
 | none => False
def bZ (C : bN) (l : List (Nat × j)) (dst : Option Nat) (bd : eD) (t : Nat) (b : Bool) (os : List cq) (acc : Option (List ea)) (K : Option (List ea) → ag → Prop) : j → Prop
 | .bool ew => if ew = b then kJ C (I l) bd (fun cd av s1 => bQ C (fin s1 dst av) os (mH acc (hg (I l) (t :: use (I l) bd) dst cd av)) K) else bQ C (fin (I l) dst (.tuple [])) os (mH acc (hg (I l) [t] dst [] (.tuple []))) K
 | .tuple [] => bQ C (fin (I l) dst (.tuple [])) os (mH acc (hg (I l) [t] dst [] (.tuple []))) K
 | _ => False
section
variable {C : bN} {l : List (Nat × j)} {os : List cq} {K : Option (List ea) → ag → Prop} {dst : Option Nat} {a : List ea} {acc : Option (List ea)}
theorem uF {s : ag} {bd : eD} {K : List Nat → j → ag → Prop} (bh : bd.oX = false) : kJ C s bd K = (match br C s bd with
  | some (av, s1) => K (cH s bd) av s1
  | none => False) := by
 apply propext
 constructor
 ·intro h
  cases bd <;> first
   | (simp [eD.oX] at bh; done)
   | (obtain ⟨av, s1, aa, ab⟩ := h; rw [aa]; exact ab)
 ·intro h
  split at h
  ·rename_i av s1 he
   cases bd <;> first
    | (simp [eD.oX] at bh; done)
    | exact ⟨av, s1, he, h⟩
  ·exact h.elim
theorem B8 : bQ C (I l) [] acc K = K acc (I l) := rfl
theorem hh {bd : eD} (bh : bd.oX = false) : bQ C (I l) (⟨dst, bd, none⟩ :: os) none K = cO C dst os K (br C (I l) bd) := by
 simp only [bQ, j3, mH]
 rw [uF bh]
 cases br C (I l) bd with
 | none => rfl
 | some p => rfl
theorem hy {bd : eD} (bh : bd.oX = false) : bQ C (I l) (⟨dst, bd, none⟩ :: os) (some a) K = cU C l (use (I l) bd) (cH (I l) bd) dst os a K (br C (I l) bd) := by
 simp only [bQ, j3, mH]
 rw [uF bh]
 cases br C (I l) bd with
 | none => rfl
 | some p => rfl
theorem B9 {bd : eD} {t : Nat} {b : Bool} : bQ C (I l) (⟨dst, bd, some (t, b)⟩ :: os) acc K = bZ C l dst bd t b os acc K (I l t) := by
 simp only [bQ, j3]
 generalize I l t = v
 cases v <;> first | rfl | (rename_i vs; cases vs <;> rfl)
theorem ep {bd : eD} {t : Nat} {b : Bool} (bh : bd.oX = false) : bZ C l dst bd t b os none K (.bool b) = cO C dst os K (br C (I l) bd) := by
 simp only [bZ, if_true]
 rw [uF bh]
 cases br C (I l) bd with
 | none => rfl
 | some p => rfl
theorem er {bd : eD} {t : Nat} {b : Bool} (bh : bd.oX = false) : bZ C l dst bd t b os (some a) K (.bool b) = cU C l (t :: use (I l) bd) (cH (I l) bd) dst os a K (br C (I l) bd) := by
 simp only [bZ, if_true]
 rw [uF bh]
 cases br C (I l) bd with
 | none => rfl
 | some p => rfl
theorem JR {bd : eD} {t : Nat} : bZ C l dst bd t true os none K (.bool false) = bQ C (fin (I l) dst (.tuple [])) os none K ∧ bZ C l dst bd t false os none K (.bool true) = bQ C (fin (I l) dst (.tuple [])) os none K ∧
  (∀ b, bZ C l dst bd t b os none K (.tuple []) = bQ C (fin (I l) dst (.tuple [])) os none K) := ⟨rfl, rfl, fun _ => rfl⟩
theorem JS {bd : eD} {t : Nat} : bZ C l dst bd t true os (some a) K (.bool false) = bQ C (fin (I l) dst (.tuple [])) os (some (hg (I l) [t] dst [] (.tuple []) :: a)) K ∧
  bZ C l dst bd t false os (some a) K (.bool true) = bQ C (fin (I l) dst (.tuple [])) os (some (hg (I l) [t] dst [] (.tuple []) :: a)) K ∧
  (∀ b, bZ C l dst bd t b os (some a) K (.tuple []) = bQ C (fin (I l) dst (.tuple [])) os (some (hg (I l) [t] dst [] (.tuple []) :: a)) K) := ⟨rfl, rfl, fun _ => rfl⟩
theorem JT (av : j) (s1 : ag) : cO C dst os K (some (av, s1)) = bQ C (fin s1 dst av) os none K := rfl
theorem JU (bn cd : List Nat) (av : j) (s1 : ag) : cU C l bn cd dst os a K (some (av, s1)) = bQ C (fin s1 dst av) os (some (hg (I l) bn dst cd av :: a)) K := rfl
def hz (s : ag) : j → Option (j × ag)
 | .h y q => cd s (.h y q)
 | d => some (d, s)
def nP (s : ag) : j → j → j → Option (j × ag)
 | .bool ew, x, y => some (if ew then x else y, s)
 | _, _, _ => none
def ct (s : ag) : Option j → Option (j × ag)
 | some d => some (d, s)
 | none => none
def eW : Option ag → Option (j × ag)
 | some s1 => some (.hole, s1)
 | none => none
def gC (s : ag) : List ax → List j
 | [] => []
 | x :: xs => aD s x :: gC s xs
def iz (s : ag) : List (Nat × ax) → List (Nat × j)
 | [] => []
 | (k, x) :: xs => (k, aD s x) :: iz s xs
def jm (s : ag) : Option ax → Option j
 | none => none
 | some x => some (aD s x)
theorem kK (s : ag) (x : Option j) : (x.map fun d => (d, s)) = ct s x := by cases x <;> rfl
theorem JV (x : Option ag) : (x.map fun s1 => (j.hole, s1)) = eW x := by cases x <;> rfl
theorem sq (s : ag) : ∀ xs : List ax, xs.map (aD s) = gC s xs
 | [] => rfl
 | x :: xs => by simp only [List.map_cons, gC, sq s xs]
theorem yn (s : ag) : ∀ xs : List (Nat × ax), (xs.map fun p => (p.1, aD s p.2)) = iz s xs
 | [] => rfl
 | (k, x) :: xs => by simp only [List.map_cons, iz, yn s xs]
theorem JW (s : ag) (x : Option ax) : x.map (aD s) = jm s x := by cases x <;> rfl
theorem qj (x : ax) : br C (I l) (.ae x) = some (aD (I l) x, I l) := by
 rfl
theorem qk (x : ax) : br C (I l) (.an x) = hz (I l) (aD (I l) x) := by
 simp only [br]; cases aD (I l) x <;> rfl
theorem ql (c x y : ax) : br C (I l) (.pick c x y) = nP (I l) (aD (I l) c) (aD (I l) x) (aD (I l) y) := by
 simp only [br]; cases aD (I l) c <;> first | rfl | (rename_i b; cases b <;> rfl)
theorem qm (T : TypeId) : br C (I l) (.eV T) = ct (I l) (eV C T) := by
 simp only [br, kK]
theorem qn (T : TypeId) (x : ax) : br C (I l) (.di T x) = di (I l) (aD (I l) x) := by
 rfl
theorem qo (T : TypeId) (ps : List (Nat × ax)) : br C (I l) (.ft T ps) = ft C (I l) T (iz (I l) ps) := by
 simp only [br, yn]
theorem nc (T : TypeId) (n : Nat) (ps : List (Nat × ax)) : br C (I l) (.c_ T n ps) = c_ C (I l) T n (iz (I l) ps) := by
 simp only [br, yn]
theorem qp (T : TypeId) (x : ax) : br C (I l) (.aW T x) = ct (I l) (aW C (I l) T (aD (I l) x)) := by
 simp only [br, kK]
theorem qq (T : TypeId) (x y : ax) : br C (I l) (.de T x y) = eW (de C (I l) T (aD (I l) x) (aD (I l) y)) := by
 simp only [br, JV]
theorem qs (x : ax) : br C (I l) (.dw x) = ct (I l) (dw (I l) (aD (I l) x)) := by
 simp only [br, kK]
theorem qt (op : BinOp) (T : TypeId) (x y : ax) : br C (I l) (.aK op T x y) = ct (I l) (aK C (I l) op T (aD (I l) x) (aD (I l) y)) := by
 simp only [br, kK]
theorem qu (op : UnOp) (x : ax) : br C (I l) (.un op x) = ct (I l) (un op (aD (I l) x)) := by
 simp only [br, kK]
theorem qv (A B : TypeId) (x : ax) : br C (I l) (.ey A B x) = ct (I l) (ey C (I l) A B (aD (I l) x)) := by
 simp only [br, kK]
theorem qw (f : FuncId) (cs : List ax) : br C (I l) (.h5 f cs) = some (.fn f (gC (I l) cs), I l) := by
 simp only [br, sq]
theorem qx (T : TypeId) (x y : ax) : br C (I l) (.eH T x y) = ct (I l) (eH C T (aD (I l) x) (aD (I l) y)) := by
 simp only [br, kK]
theorem qy (T : TypeId) (x : ax) (cy az : Option ax) : br C (I l) (.dx T x cy az) = dx C (I l) T (aD (I l) x) (jm (I l) cy) (jm (I l) az) := by
 simp only [br, JW]
theorem qz (T : TypeId) (x : ax) (k : Nat) : br C (I l) (.bs T x k) = ct (I l) (bs C (I l) T (aD (I l) x) k) := by
 simp only [br, kK]
theorem qA (T : TypeId) (x y : ax) : br C (I l) (.cp T x y) = ct (I l) (cp C (I l) T (aD (I l) x) (aD (I l) y)) := by
 simp only [br, kK]
theorem qB (T : TypeId) (x y : ax) : br C (I l) (.idx T x y) = ct (I l) (idx C T (aD (I l) x) (aD (I l) y)) := by
 simp only [br, kK]
theorem qC (x : ax) (k : Nat) : br C (I l) (.ex x k) = ct (I l) (ex (I l) (aD (I l) x) k) := by
 simp only [br, kK]
theorem qD (T : TypeId) (x : ax) : br C (I l) (.len T x) = ct (I l) (jV C (I l) T (aD (I l) x)) := by
 simp only [br, kK]
theorem qE (T bn : TypeId) (x y : ax) : br C (I l) (.app T bn x y) = jX C (I l) T bn (aD (I l) x) (aD (I l) y) := by
 rfl
theorem JX :
  (∀ (x : ax) , bQ C (I l) (⟨dst, .ae x, none⟩ :: os) none K = cO C dst os K (some (aD (I l) x, I l))) ∧
  (∀ (x : ax) , bQ C (I l) (⟨dst, .an x, none⟩ :: os) none K = cO C dst os K (hz (I l) (aD (I l) x))) ∧
  (∀ (c x y : ax) , bQ C (I l) (⟨dst, .pick c x y, none⟩ :: os) none K = cO C dst os K (nP (I l) (aD (I l) c) (aD (I l) x) (aD (I l) y))) ∧
  (∀ (T : TypeId) , bQ C (I l) (⟨dst, .eV T, none⟩ :: os) none K = cO C dst os K (ct (I l) (eV C T))) ∧
  (∀ (T : TypeId) (x : ax) , bQ C (I l) (⟨dst, .di T x, none⟩ :: os) none K = cO C dst os K (di (I l) (aD (I l) x))) ∧
  (∀ (T : TypeId) (ps : List (Nat × ax)) , bQ C (I l) (⟨dst, .ft T ps, none⟩ :: os) none K = cO C dst os K (ft C (I l) T (iz (I l) ps))) ∧
  (∀ (T : TypeId) (n : Nat) (ps : List (Nat × ax)) , bQ C (I l) (⟨dst, .c_ T n ps, none⟩ :: os) none K = cO C dst os K (c_ C (I l) T n (iz (I l) ps))) ∧
  (∀ (T : TypeId) (x : ax) , bQ C (I l) (⟨dst, .aW T x, none⟩ :: os) none K = cO C dst os K (ct (I l) (aW C (I l) T (aD (I l) x)))) ∧
  (∀ (T : TypeId) (x y : ax) , bQ C (I l) (⟨dst, .de T x y, none⟩ :: os) none K = cO C dst os K (eW (de C (I l) T (aD (I l) x) (aD (I l) y)))) ∧
  (∀ (x : ax) , bQ C (I l) (⟨dst, .dw x, none⟩ :: os) none K = cO C dst os K (ct (I l) (dw (I l) (aD (I l) x)))) ∧
  (∀ (op : BinOp) (T : TypeId) (x y : ax) , bQ C (I l) (⟨dst, .aK op T x y, none⟩ :: os) none K = cO C dst os K (ct (I l) (aK C (I l) op T (aD (I l) x) (aD (I l) y)))) ∧
  (∀ (op : UnOp) (x : ax) , bQ C (I l) (⟨dst, .un op x, none⟩ :: os) none K = cO C dst os K (ct (I l) (un op (aD (I l) x)))) ∧
  (∀ (A B : TypeId) (x : ax) , bQ C (I l) (⟨dst, .ey A B x, none⟩ :: os) none K = cO C dst os K (ct (I l) (ey C (I l) A B (aD (I l) x)))) ∧
  (∀ (f : FuncId) (cs : List ax) , bQ C (I l) (⟨dst, .h5 f cs, none⟩ :: os) none K = cO C dst os K (some (.fn f (gC (I l) cs), I l))) ∧
  (∀ (T : TypeId) (x y : ax) , bQ C (I l) (⟨dst, .eH T x y, none⟩ :: os) none K = cO C dst os K (ct (I l) (eH C T (aD (I l) x) (aD (I l) y)))) ∧
  (∀ (T : TypeId) (x : ax) (cy az : Option ax) , bQ C (I l) (⟨dst, .dx T x cy az, none⟩ :: os) none K = cO C dst os K (dx C (I l) T (aD (I l) x) (jm (I l) cy) (jm (I l) az))) ∧
  (∀ (T : TypeId) (x : ax) (k : Nat) , bQ C (I l) (⟨dst, .bs T x k, none⟩ :: os) none K = cO C dst os K (ct (I l) (bs C (I l) T (aD (I l) x) k))) ∧
  (∀ (T : TypeId) (x y : ax) , bQ C (I l) (⟨dst, .cp T x y, none⟩ :: os) none K = cO C dst os K (ct (I l) (cp C (I l) T (aD (I l) x) (aD (I l) y)))) ∧
  (∀ (T : TypeId) (x y : ax) , bQ C (I l) (⟨dst, .idx T x y, none⟩ :: os) none K = cO C dst os K (ct (I l) (idx C T (aD (I l) x) (aD (I l) y)))) ∧
  (∀ (x : ax) (k : Nat) , bQ C (I l) (⟨dst, .ex x k, none⟩ :: os) none K = cO C dst os K (ct (I l) (ex (I l) (aD (I l) x) k))) ∧
  (∀ (T : TypeId) (x : ax) , bQ C (I l) (⟨dst, .len T x, none⟩ :: os) none K = cO C dst os K (ct (I l) (jV C (I l) T (aD (I l) x)))) ∧
  (∀ (T bn : TypeId) (x y : ax) , bQ C (I l) (⟨dst, .app T bn x y, none⟩ :: os) none K = cO C dst os K (jX C (I l) T bn (aD (I l) x) (aD (I l) y))) :=
 ⟨fun x => (hh rfl).trans (congrArg _ (qj x)), fun x => (hh rfl).trans (congrArg _ (qk x)), fun c x y => (hh rfl).trans (congrArg _ (ql c x y)), fun T => (hh rfl).trans (congrArg _ (qm T)), fun T x => (hh rfl).trans (congrArg _ (qn T x)), fun T ps => (hh rfl).trans (congrArg _ (qo T ps)), fun T n ps => (hh rfl).trans (congrArg _ (nc T n ps)), fun T x => (hh rfl).trans (congrArg _ (qp T x)), fun T x y => (hh rfl).trans (congrArg _ (qq T x y)), fun x => (hh rfl).trans (congrArg _ (qs x)), fun op T x y => (hh rfl).trans (congrArg _ (qt op T x y)), fun op x => (hh rfl).trans (congrArg _ (qu op x)), fun A B x => (hh rfl).trans (congrArg _ (qv A B x)), fun f cs => (hh rfl).trans (congrArg _ (qw f cs)), fun T x y => (hh rfl).trans (congrArg _ (qx T x y)), fun T x cy az => (hh rfl).trans (congrArg _ (qy T x cy az)), fun T x k => (hh rfl).trans (congrArg _ (qz T x k)), fun T x y => (hh rfl).trans (congrArg _ (qA T x y)), fun T x y => (hh rfl).trans (congrArg _ (qB T x y)), fun x k => (hh rfl).trans (congrArg _ (qC x k)), fun T x => (hh rfl).trans (congrArg _ (qD T x)), fun T bn x y => (hh rfl).trans (congrArg _ (qE T bn x y))⟩
theorem JY :
  (∀ (x : ax) , bQ C (I l) (⟨dst, .ae x, none⟩ :: os) (some a) K = cU C l (use (I l) (.ae x)) (cH (I l) (.ae x)) dst os a K (some (aD (I l) x, I l))) ∧
  (∀ (x : ax) , bQ C (I l) (⟨dst, .an x, none⟩ :: os) (some a) K = cU C l (use (I l) (.an x)) (cH (I l) (.an x)) dst os a K (hz (I l) (aD (I l) x))) ∧
  (∀ (c x y : ax) , bQ C (I l) (⟨dst, .pick c x y, none⟩ :: os) (some a) K = cU C l (use (I l) (.pick c x y)) (cH (I l) (.pick c x y)) dst os a K (nP (I l) (aD (I l) c) (aD (I l) x) (aD (I l) y))) ∧
  (∀ (T : TypeId) , bQ C (I l) (⟨dst, .eV T, none⟩ :: os) (some a) K = cU C l (use (I l) (.eV T)) (cH (I l) (.eV T)) dst os a K (ct (I l) (eV C T))) ∧
  (∀ (T : TypeId) (x : ax) , bQ C (I l) (⟨dst, .di T x, none⟩ :: os) (some a) K = cU C l (use (I l) (.di T x)) (cH (I l) (.di T x)) dst os a K (di (I l) (aD (I l) x))) ∧
  (∀ (T : TypeId) (ps : List (Nat × ax)) , bQ C (I l) (⟨dst, .ft T ps, none⟩ :: os) (some a) K = cU C l (use (I l) (.ft T ps)) (cH (I l) (.ft T ps)) dst os a K (ft C (I l) T (iz (I l) ps))) ∧
  (∀ (T : TypeId) (n : Nat) (ps : List (Nat × ax)) , bQ C (I l) (⟨dst, .c_ T n ps, none⟩ :: os) (some a) K = cU C l (use (I l) (.c_ T n ps)) (cH (I l) (.c_ T n ps)) dst os a K (c_ C (I l) T n (iz (I l) ps))) ∧
  (∀ (T : TypeId) (x : ax) , bQ C (I l) (⟨dst, .aW T x, none⟩ :: os) (some a) K = cU C l (use (I l) (.aW T x)) (cH (I l) (.aW T x)) dst os a K (ct (I l) (aW C (I l) T (aD (I l) x)))) ∧
  (∀ (T : TypeId) (x y : ax) , bQ C (I l) (⟨dst, .de T x y, none⟩ :: os) (some a) K = cU C l (use (I l) (.de T x y)) (cH (I l) (.de T x y)) dst os a K (eW (de C (I l) T (aD (I l) x) (aD (I l) y)))) ∧
  (∀ (x : ax) , bQ C (I l) (⟨dst, .dw x, none⟩ :: os) (some a) K = cU C l (use (I l) (.dw x)) (cH (I l) (.dw x)) dst os a K (ct (I l) (dw (I l) (aD (I l) x)))) ∧
  (∀ (op : BinOp) (T : TypeId) (x y : ax) , bQ C (I l) (⟨dst, .aK op T x y, none⟩ :: os) (some a) K = cU C l (use (I l) (.aK op T x y)) (cH (I l) (.aK op T x y)) dst os a K (ct (I l) (aK C (I l) op T (aD (I l) x) (aD (I l) y)))) ∧
  (∀ (op : UnOp) (x : ax) , bQ C (I l) (⟨dst, .un op x, none⟩ :: os) (some a) K = cU C l (use (I l) (.un op x)) (cH (I l) (.un op x)) dst os a K (ct (I l) (un op (aD (I l) x)))) ∧
  (∀ (A B : TypeId) (x : ax) , bQ C (I l) (⟨dst, .ey A B x, none⟩ :: os) (some a) K = cU C l (use (I l) (.ey A B x)) (cH (I l) (.ey A B x)) dst os a K (ct (I l) (ey C (I l) A B (aD (I l) x)))) ∧
  (∀ (f : FuncId) (cs : List ax) , bQ C (I l) (⟨dst, .h5 f cs, none⟩ :: os) (some a) K = cU C l (use (I l) (.h5 f cs)) (cH (I l) (.h5 f cs)) dst os a K (some (.fn f (gC (I l) cs), I l))) ∧
  (∀ (T : TypeId) (x y : ax) , bQ C (I l) (⟨dst, .eH T x y, none⟩ :: os) (some a) K = cU C l (use (I l) (.eH T x y)) (cH (I l) (.eH T x y)) dst os a K (ct (I l) (eH C T (aD (I l) x) (aD (I l) y)))) ∧
  (∀ (T : TypeId) (x : ax) (cy az : Option ax) , bQ C (I l) (⟨dst, .dx T x cy az, none⟩ :: os) (some a) K = cU C l (use (I l) (.dx T x cy az)) (cH (I l) (.dx T x cy az)) dst os a K (dx C (I l) T (aD (I l) x) (jm (I l) cy) (jm (I l) az))) ∧
  (∀ (T : TypeId) (x : ax) (k : Nat) , bQ C (I l) (⟨dst, .bs T x k, none⟩ :: os) (some a) K = cU C l (use (I l) (.bs T x k)) (cH (I l) (.bs T x k)) dst os a K (ct (I l) (bs C (I l) T (aD (I l) x) k))) ∧
  (∀ (T : TypeId) (x y : ax) , bQ C (I l) (⟨dst, .cp T x y, none⟩ :: os) (some a) K = cU C l (use (I l) (.cp T x y)) (cH (I l) (.cp T x y)) dst os a K (ct (I l) (cp C (I l) T (aD (I l) x) (aD (I l) y)))) ∧
  (∀ (T : TypeId) (x y : ax) , bQ C (I l) (⟨dst, .idx T x y, none⟩ :: os) (some a) K = cU C l (use (I l) (.idx T x y)) (cH (I l) (.idx T x y)) dst os a K (ct (I l) (idx C T (aD (I l) x) (aD (I l) y)))) ∧
  (∀ (x : ax) (k : Nat) , bQ C (I l) (⟨dst, .ex x k, none⟩ :: os) (some a) K = cU C l (use (I l) (.ex x k)) (cH (I l) (.ex x k)) dst os a K (ct (I l) (ex (I l) (aD (I l) x) k))) ∧
  (∀ (T : TypeId) (x : ax) , bQ C (I l) (⟨dst, .len T x, none⟩ :: os) (some a) K = cU C l (use (I l) (.len T x)) (cH (I l) (.len T x)) dst os a K (ct (I l) (jV C (I l) T (aD (I l) x)))) ∧
  (∀ (T bn : TypeId) (x y : ax) , bQ C (I l) (⟨dst, .app T bn x y, none⟩ :: os) (some a) K = cU C l (use (I l) (.app T bn x y)) (cH (I l) (.app T bn x y)) dst os a K (jX C (I l) T bn (aD (I l) x) (aD (I l) y))) :=
 ⟨fun x => (hy rfl).trans (congrArg _ (qj x)), fun x => (hy rfl).trans (congrArg _ (qk x)), fun c x y => (hy rfl).trans (congrArg _ (ql c x y)), fun T => (hy rfl).trans (congrArg _ (qm T)), fun T x => (hy rfl).trans (congrArg _ (qn T x)), fun T ps => (hy rfl).trans (congrArg _ (qo T ps)), fun T n ps => (hy rfl).trans (congrArg _ (nc T n ps)), fun T x => (hy rfl).trans (congrArg _ (qp T x)), fun T x y => (hy rfl).trans (congrArg _ (qq T x y)), fun x => (hy rfl).trans (congrArg _ (qs x)), fun op T x y => (hy rfl).trans (congrArg _ (qt op T x y)), fun op x => (hy rfl).trans (congrArg _ (qu op x)), fun A B x => (hy rfl).trans (congrArg _ (qv A B x)), fun f cs => (hy rfl).trans (congrArg _ (qw f cs)), fun T x y => (hy rfl).trans (congrArg _ (qx T x y)), fun T x cy az => (hy rfl).trans (congrArg _ (qy T x cy az)), fun T x k => (hy rfl).trans (congrArg _ (qz T x k)), fun T x y => (hy rfl).trans (congrArg _ (qA T x y)), fun T x y => (hy rfl).trans (congrArg _ (qB T x y)), fun x k => (hy rfl).trans (congrArg _ (qC x k)), fun T x => (hy rfl).trans (congrArg _ (qD T x)), fun T bn x y => (hy rfl).trans (congrArg _ (qE T bn x y))⟩
theorem JZ :
  (∀ (x : ax) (t : Nat), bZ C l dst (.ae x) t true os none K (.bool true) = cO C dst os K (some (aD (I l) x, I l))) ∧
  (∀ (x : ax) (t : Nat), bZ C l dst (.ae x) t false os none K (.bool false) = cO C dst os K (some (aD (I l) x, I l))) ∧
  (∀ (x : ax) (t : Nat), bZ C l dst (.an x) t true os none K (.bool true) = cO C dst os K (hz (I l) (aD (I l) x))) ∧
  (∀ (x : ax) (t : Nat), bZ C l dst (.an x) t false os none K (.bool false) = cO C dst os K (hz (I l) (aD (I l) x))) ∧
  (∀ (c x y : ax) (t : Nat), bZ C l dst (.pick c x y) t true os none K (.bool true) = cO C dst os K (nP (I l) (aD (I l) c) (aD (I l) x) (aD (I l) y))) ∧
  (∀ (c x y : ax) (t : Nat), bZ C l dst (.pick c x y) t false os none K (.bool false) = cO C dst os K (nP (I l) (aD (I l) c) (aD (I l) x) (aD (I l) y))) ∧
  (∀ (T : TypeId) (t : Nat), bZ C l dst (.eV T) t true os none K (.bool true) = cO C dst os K (ct (I l) (eV C T))) ∧
  (∀ (T : TypeId) (t : Nat), bZ C l dst (.eV T) t false os none K (.bool false) = cO C dst os K (ct (I l) (eV C T))) ∧
  (∀ (T : TypeId) (x : ax) (t : Nat), bZ C l dst (.di T x) t true os none K (.bool true) = cO C dst os K (di (I l) (aD (I l) x))) ∧
  (∀ (T : TypeId) (x : ax) (t : Nat), bZ C l dst (.di T x) t false os none K (.bool false) = cO C dst os K (di (I l) (aD (I l) x))) ∧
  (∀ (T : TypeId) (ps : List (Nat × ax)) (t : Nat), bZ C l dst (.ft T ps) t true os none K (.bool true) = cO C dst os K (ft C (I l) T (iz (I l) ps))) ∧
  (∀ (T : TypeId) (ps : List (Nat × ax)) (t : Nat), bZ C l dst (.ft T ps) t false os none K (.bool false) = cO C dst os K (ft C (I l) T (iz (I l) ps))) ∧
  (∀ (T : TypeId) (n : Nat) (ps : List (Nat × ax)) (t : Nat), bZ C l dst (.c_ T n ps) t true os none K (.bool true) = cO C dst os K (c_ C (I l) T n (iz (I l) ps))) ∧
  (∀ (T : TypeId) (n : Nat) (ps : List (Nat × ax)) (t : Nat), bZ C l dst (.c_ T n ps) t false os none K (.bool false) = cO C dst os K (c_ C (I l) T n (iz (I l) ps))) ∧
  (∀ (T : TypeId) (x : ax) (t : Nat), bZ C l dst (.aW T x) t true os none K (.bool true) = cO C dst os K (ct (I l) (aW C (I l) T (aD (I l) x)))) ∧
  (∀ (T : TypeId) (x : ax) (t : Nat), bZ C l dst (.aW T x) t false os none K (.bool false) = cO C dst os K (ct (I l) (aW C (I l) T (aD (I l) x)))) ∧
  (∀ (T : TypeId) (x y : ax) (t : Nat), bZ C l dst (.de T x y) t true os none K (.bool true) = cO C dst os K (eW (de C (I l) T (aD (I l) x) (aD (I l) y)))) ∧
  (∀ (T : TypeId) (x y : ax) (t : Nat), bZ C l dst (.de T x y) t false os none K (.bool false) = cO C dst os K (eW (de C (I l) T (aD (I l) x) (aD (I l) y)))) ∧
  (∀ (x : ax) (t : Nat), bZ C l dst (.dw x) t true os none K (.bool true) = cO C dst os K (ct (I l) (dw (I l) (aD (I l) x)))) ∧
  (∀ (x : ax) (t : Nat), bZ C l dst (.dw x) t false os none K (.bool false) = cO C dst os K (ct (I l) (dw (I l) (aD (I l) x)))) ∧
  (∀ (op : BinOp) (T : TypeId) (x y : ax) (t : Nat), bZ C l dst (.aK op T x y) t true os none K (.bool true) = cO C dst os K (ct (I l) (aK C (I l) op T (aD (I l) x) (aD (I l) y)))) ∧
  (∀ (op : BinOp) (T : TypeId) (x y : ax) (t : Nat), bZ C l dst (.aK op T x y) t false os none K (.bool false) = cO C dst os K (ct (I l) (aK C (I l) op T (aD (I l) x) (aD (I l) y)))) ∧
  (∀ (op : UnOp) (x : ax) (t : Nat), bZ C l dst (.un op x) t true os none K (.bool true) = cO C dst os K (ct (I l) (un op (aD (I l) x)))) ∧
  (∀ (op : UnOp) (x : ax) (t : Nat), bZ C l dst (.un op x) t false os none K (.bool false) = cO C dst os K (ct (I l) (un op (aD (I l) x)))) ∧
  (∀ (A B : TypeId) (x : ax) (t : Nat), bZ C l dst (.ey A B x) t true os none K (.bool true) = cO C dst os K (ct (I l) (ey C (I l) A B (aD (I l) x)))) ∧
  (∀ (A B : TypeId) (x : ax) (t : Nat), bZ C l dst (.ey A B x) t false os none K (.bool false) = cO C dst os K (ct (I l) (ey C (I l) A B (aD (I l) x)))) ∧
  (∀ (f : FuncId) (cs : List ax) (t : Nat), bZ C l dst (.h5 f cs) t true os none K (.bool true) = cO C dst os K (some (.fn f (gC (I l) cs), I l))) ∧
  (∀ (f : FuncId) (cs : List ax) (t : Nat), bZ C l dst (.h5 f cs) t false os none K (.bool false) = cO C dst os K (some (.fn f (gC (I l) cs), I l))) ∧
  (∀ (T : TypeId) (x y : ax) (t : Nat), bZ C l dst (.eH T x y) t true os none K (.bool true) = cO C dst os K (ct (I l) (eH C T (aD (I l) x) (aD (I l) y)))) ∧
  (∀ (T : TypeId) (x y : ax) (t : Nat), bZ C l dst (.eH T x y) t false os none K (.bool false) = cO C dst os K (ct (I l) (eH C T (aD (I l) x) (aD (I l) y)))) ∧
  (∀ (T : TypeId) (x : ax) (cy az : Option ax) (t : Nat), bZ C l dst (.dx T x cy az) t true os none K (.bool true) = cO C dst os K (dx C (I l) T (aD (I l) x) (jm (I l) cy) (jm (I l) az))) ∧
  (∀ (T : TypeId) (x : ax) (cy az : Option ax) (t : Nat), bZ C l dst (.dx T x cy az) t false os none K (.bool false) = cO C dst os K (dx C (I l) T (aD (I l) x) (jm (I l) cy) (jm (I l) az))) ∧
  (∀ (T : TypeId) (x : ax) (k : Nat) (t : Nat), bZ C l dst (.bs T x k) t true os none K (.bool true) = cO C dst os K (ct (I l) (bs C (I l) T (aD (I l) x) k))) ∧
  (∀ (T : TypeId) (x : ax) (k : Nat) (t : Nat), bZ C l dst (.bs T x k) t false os none K (.bool false) = cO C dst os K (ct (I l) (bs C (I l) T (aD (I l) x) k))) ∧
  (∀ (T : TypeId) (x y : ax) (t : Nat), bZ C l dst (.cp T x y) t true os none K (.bool true) = cO C dst os K (ct (I l) (cp C (I l) T (aD (I l) x) (aD (I l) y)))) ∧
  (∀ (T : TypeId) (x y : ax) (t : Nat), bZ C l dst (.cp T x y) t false os none K (.bool false) = cO C dst os K (ct (I l) (cp C (I l) T (aD (I l) x) (aD (I l) y)))) ∧
  (∀ (T : TypeId) (x y : ax) (t : Nat), bZ C l dst (.idx T x y) t true os none K (.bool true) = cO C dst os K (ct (I l) (idx C T (aD (I l) x) (aD (I l) y)))) ∧
  (∀ (T : TypeId) (x y : ax) (t : Nat), bZ C l dst (.idx T x y) t false os none K (.bool false) = cO C dst os K (ct (I l) (idx C T (aD (I l) x) (aD (I l) y)))) ∧
  (∀ (x : ax) (k : Nat) (t : Nat), bZ C l dst (.ex x k) t true os none K (.bool true) = cO C dst os K (ct (I l) (ex (I l) (aD (I l) x) k))) ∧
  (∀ (x : ax) (k : Nat) (t : Nat), bZ C l dst (.ex x k) t false os none K (.bool false) = cO C dst os K (ct (I l) (ex (I l) (aD (I l) x) k))) ∧
  (∀ (T : TypeId) (x : ax) (t : Nat), bZ C l dst (.len T x) t true os none K (.bool true) = cO C dst os K (ct (I l) (jV C (I l) T (aD (I l) x)))) ∧
  (∀ (T : TypeId) (x : ax) (t : Nat), bZ C l dst (.len T x) t false os none K (.bool false) = cO C dst os K (ct (I l) (jV C (I l) T (aD (I l) x)))) ∧
  (∀ (T bn : TypeId) (x y : ax) (t : Nat), bZ C l dst (.app T bn x y) t true os none K (.bool true) = cO C dst os K (jX C (I l) T bn (aD (I l) x) (aD (I l) y))) ∧
  (∀ (T bn : TypeId) (x y : ax) (t : Nat), bZ C l dst (.app T bn x y) t false os none K (.bool false) = cO C dst os K (jX C (I l) T bn (aD (I l) x) (aD (I l) y))) :=
 ⟨fun x _ => (ep rfl).trans (congrArg _ (qj x)), fun x _ => (ep rfl).trans (congrArg _ (qj x)), fun x _ => (ep rfl).trans (congrArg _ (qk x)), fun x _ => (ep rfl).trans (congrArg _ (qk x)), fun c x y _ => (ep rfl).trans (congrArg _ (ql c x y)), fun c x y _ => (ep rfl).trans (congrArg _ (ql c x y)), fun T _ => (ep rfl).trans (congrArg _ (qm T)), fun T _ => (ep rfl).trans (congrArg _ (qm T)), fun T x _ => (ep rfl).trans (congrArg _ (qn T x)), fun T x _ => (ep rfl).trans (congrArg _ (qn T x)), fun T ps _ => (ep rfl).trans (congrArg _ (qo T ps)), fun T ps _ => (ep rfl).trans (congrArg _ (qo T ps)), fun T n ps _ => (ep rfl).trans (congrArg _ (nc T n ps)), fun T n ps _ => (ep rfl).trans (congrArg _ (nc T n ps)), fun T x _ => (ep rfl).trans (congrArg _ (qp T x)), fun T x _ => (ep rfl).trans (congrArg _ (qp T x)), fun T x y _ => (ep rfl).trans (congrArg _ (qq T x y)), fun T x y _ => (ep rfl).trans (congrArg _ (qq T x y)), fun x _ => (ep rfl).trans (congrArg _ (qs x)), fun x _ => (ep rfl).trans (congrArg _ (qs x)), fun op T x y _ => (ep rfl).trans (congrArg _ (qt op T x y)), fun op T x y _ => (ep rfl).trans (congrArg _ (qt op T x y)), fun op x _ => (ep rfl).trans (congrArg _ (qu op x)), fun op x _ => (ep rfl).trans (congrArg _ (qu op x)), fun A B x _ => (ep rfl).trans (congrArg _ (qv A B x)), fun A B x _ => (ep rfl).trans (congrArg _ (qv A B x)), fun f cs _ => (ep rfl).trans (congrArg _ (qw f cs)), fun f cs _ => (ep rfl).trans (congrArg _ (qw f cs)), fun T x y _ => (ep rfl).trans (congrArg _ (qx T x y)), fun T x y _ => (ep rfl).trans (congrArg _ (qx T x y)), fun T x cy az _ => (ep rfl).trans (congrArg _ (qy T x cy az)), fun T x cy az _ => (ep rfl).trans (congrArg _ (qy T x cy az)), fun T x k _ => (ep rfl).trans (congrArg _ (qz T x k)), fun T x k _ => (ep rfl).trans (congrArg _ (qz T x k)), fun T x y _ => (ep rfl).trans (congrArg _ (qA T x y)), fun T x y _ => (ep rfl).trans (congrArg _ (qA T x y)), fun T x y _ => (ep rfl).trans (congrArg _ (qB T x y)), fun T x y _ => (ep rfl).trans (congrArg _ (qB T x y)), fun x k _ => (ep rfl).trans (congrArg _ (qC x k)), fun x k _ => (ep rfl).trans (congrArg _ (qC x k)), fun T x _ => (ep rfl).trans (congrArg _ (qD T x)), fun T x _ => (ep rfl).trans (congrArg _ (qD T x)), fun T bn x y _ => (ep rfl).trans (congrArg _ (qE T bn x y)), fun T bn x y _ => (ep rfl).trans (congrArg _ (qE T bn x y))⟩
theorem J0 :
  (∀ (x : ax) (t : Nat), bZ C l dst (.ae x) t true os (some a) K (.bool true) = cU C l (t :: use (I l) (.ae x)) (cH (I l) (.ae x)) dst os a K (some (aD (I l) x, I l))) ∧
  (∀ (x : ax) (t : Nat), bZ C l dst (.ae x) t false os (some a) K (.bool false) = cU C l (t :: use (I l) (.ae x)) (cH (I l) (.ae x)) dst os a K (some (aD (I l) x, I l))) ∧
  (∀ (x : ax) (t : Nat), bZ C l dst (.an x) t true os (some a) K (.bool true) = cU C l (t :: use (I l) (.an x)) (cH (I l) (.an x)) dst os a K (hz (I l) (aD (I l) x))) ∧
  (∀ (x : ax) (t : Nat), bZ C l dst (.an x) t false os (some a) K (.bool false) = cU C l (t :: use (I l) (.an x)) (cH (I l) (.an x)) dst os a K (hz (I l) (aD (I l) x))) ∧
  (∀ (c x y : ax) (t : Nat), bZ C l dst (.pick c x y) t true os (some a) K (.bool true) = cU C l (t :: use (I l) (.pick c x y)) (cH (I l) (.pick c x y)) dst os a K (nP (I l) (aD (I l) c) (aD (I l) x) (aD (I l) y))) ∧
  (∀ (c x y : ax) (t : Nat), bZ C l dst (.pick c x y) t false os (some a) K (.bool false) = cU C l (t :: use (I l) (.pick c x y)) (cH (I l) (.pick c x y)) dst os a K (nP (I l) (aD (I l) c) (aD (I l) x) (aD (I l) y))) ∧
  (∀ (T : TypeId) (t : Nat), bZ C l dst (.eV T) t true os (some a) K (.bool true) = cU C l (t :: use (I l) (.eV T)) (cH (I l) (.eV T)) dst os a K (ct (I l) (eV C T))) ∧
  (∀ (T : TypeId) (t : Nat), bZ C l dst (.eV T) t false os (some a) K (.bool false) = cU C l (t :: use (I l) (.eV T)) (cH (I l) (.eV T)) dst os a K (ct (I l) (eV C T))) ∧
  (∀ (T : TypeId) (x : ax) (t : Nat), bZ C l dst (.di T x) t true os (some a) K (.bool true) = cU C l (t :: use (I l) (.di T x)) (cH (I l) (.di T x)) dst os a K (di (I l) (aD (I l) x))) ∧
  (∀ (T : TypeId) (x : ax) (t : Nat), bZ C l dst (.di T x) t false os (some a) K (.bool false) = cU C l (t :: use (I l) (.di T x)) (cH (I l) (.di T x)) dst os a K (di (I l) (aD (I l) x))) ∧
  (∀ (T : TypeId) (ps : List (Nat × ax)) (t : Nat), bZ C l dst (.ft T ps) t true os (some a) K (.bool true) = cU C l (t :: use (I l) (.ft T ps)) (cH (I l) (.ft T ps)) dst os a K (ft C (I l) T (iz (I l) ps))) ∧
  (∀ (T : TypeId) (ps : List (Nat × ax)) (t : Nat), bZ C l dst (.ft T ps) t false os (some a) K (.bool false) = cU C l (t :: use (I l) (.ft T ps)) (cH (I l) (.ft T ps)) dst os a K (ft C (I l) T (iz (I l) ps))) ∧
  (∀ (T : TypeId) (n : Nat) (ps : List (Nat × ax)) (t : Nat), bZ C l dst (.c_ T n ps) t true os (some a) K (.bool true) = cU C l (t :: use (I l) (.c_ T n ps)) (cH (I l) (.c_ T n ps)) dst os a K (c_ C (I l) T n (iz (I l) ps))) ∧
  (∀ (T : TypeId) (n : Nat) (ps : List (Nat × ax)) (t : Nat), bZ C l dst (.c_ T n ps) t false os (some a) K (.bool false) = cU C l (t :: use (I l) (.c_ T n ps)) (cH (I l) (.c_ T n ps)) dst os a K (c_ C (I l) T n (iz (I l) ps))) ∧
  (∀ (T : TypeId) (x : ax) (t : Nat), bZ C l dst (.aW T x) t true os (some a) K (.bool true) = cU C l (t :: use (I l) (.aW T x)) (cH (I l) (.aW T x)) dst os a K (ct (I l) (aW C (I l) T (aD (I l) x)))) ∧
  (∀ (T : TypeId) (x : ax) (t : Nat), bZ C l dst (.aW T x) t false os (some a) K (.bool false) = cU C l (t :: use (I l) (.aW T x)) (cH (I l) (.aW T x)) dst os a K (ct (I l) (aW C (I l) T (aD (I l) x)))) ∧
  (∀ (T : TypeId) (x y : ax) (t : Nat), bZ C l dst (.de T x y) t true os (some a) K (.bool true) = cU C l (t :: use (I l) (.de T x y)) (cH (I l) (.de T x y)) dst os a K (eW (de C (I l) T (aD (I l) x) (aD (I l) y)))) ∧
  (∀ (T : TypeId) (x y : ax) (t : Nat), bZ C l dst (.de T x y) t false os (some a) K (.bool false) = cU C l (t :: use (I l) (.de T x y)) (cH (I l) (.de T x y)) dst os a K (eW (de C (I l) T (aD (I l) x) (aD (I l) y)))) ∧
  (∀ (x : ax) (t : Nat), bZ C l dst (.dw x) t true os (some a) K (.bool true) = cU C l (t :: use (I l) (.dw x)) (cH (I l) (.dw x)) dst os a K (ct (I l) (dw (I l) (aD (I l) x)))) ∧
  (∀ (x : ax) (t : Nat), bZ C l dst (.dw x) t false os (some a) K (.bool false) = cU C l (t :: use (I l) (.dw x)) (cH (I l) (.dw x)) dst os a K (ct (I l) (dw (I l) (aD (I l) x)))) ∧
  (∀ (op : BinOp) (T : TypeId) (x y : ax) (t : Nat), bZ C l dst (.aK op T x y) t true os (some a) K (.bool true) = cU C l (t :: use (I l) (.aK op T x y)) (cH (I l) (.aK op T x y)) dst os a K (ct (I l) (aK C (I l) op T (aD (I l) x) (aD (I l) y)))) ∧
  (∀ (op : BinOp) (T : TypeId) (x y : ax) (t : Nat), bZ C l dst (.aK op T x y) t false os (some a) K (.bool false) = cU C l (t :: use (I l) (.aK op T x y)) (cH (I l) (.aK op T x y)) dst os a K (ct (I l) (aK C (I l) op T (aD (I l) x) (aD (I l) y)))) ∧
  (∀ (op : UnOp) (x : ax) (t : Nat), bZ C l dst (.un op x) t true os (some a) K (.bool true) = cU C l (t :: use (I l) (.un op x)) (cH (I l) (.un op x)) dst os a K (ct (I l) (un op (aD (I l) x)))) ∧
  (∀ (op : UnOp) (x : ax) (t : Nat), bZ C l dst (.un op x) t false os (some a) K (.bool false) = cU C l (t :: use (I l) (.un op x)) (cH (I l) (.un op x)) dst os a K (ct (I l) (un op (aD (I l) x)))) ∧
  (∀ (A B : TypeId) (x : ax) (t : Nat), bZ C l dst (.ey A B x) t true os (some a) K (.bool true) = cU C l (t :: use (I l) (.ey A B x)) (cH (I l) (.ey A B x)) dst os a K (ct (I l) (ey C (I l) A B (aD (I l) x)))) ∧
  (∀ (A B : TypeId) (x : ax) (t : Nat), bZ C l dst (.ey A B x) t false os (some a) K (.bool false) = cU C l (t :: use (I l) (.ey A B x)) (cH (I l) (.ey A B x)) dst os a K (ct (I l) (ey C (I l) A B (aD (I l) x)))) ∧
  (∀ (f : FuncId) (cs : List ax) (t : Nat), bZ C l dst (.h5 f cs) t true os (some a) K (.bool true) = cU C l (t :: use (I l) (.h5 f cs)) (cH (I l) (.h5 f cs)) dst os a K (some (.fn f (gC (I l) cs), I l))) ∧
  (∀ (f : FuncId) (cs : List ax) (t : Nat), bZ C l dst (.h5 f cs) t false os (some a) K (.bool false) = cU C l (t :: use (I l) (.h5 f cs)) (cH (I l) (.h5 f cs)) dst os a K (some (.fn f (gC (I l) cs), I l))) ∧
  (∀ (T : TypeId) (x y : ax) (t : Nat), bZ C l dst (.eH T x y) t true os (some a) K (.bool true) = cU C l (t :: use (I l) (.eH T x y)) (cH (I l) (.eH T x y)) dst os a K (ct (I l) (eH C T (aD (I l) x) (aD (I l) y)))) ∧
  (∀ (T : TypeId) (x y : ax) (t : Nat), bZ C l dst (.eH T x y) t false os (some a) K (.bool false) = cU C l (t :: use (I l) (.eH T x y)) (cH (I l) (.eH T x y)) dst os a K (ct (I l) (eH C T (aD (I l) x) (aD (I l) y)))) ∧
  (∀ (T : TypeId) (x : ax) (cy az : Option ax) (t : Nat), bZ C l dst (.dx T x cy az) t true os (some a) K (.bool true) = cU C l (t :: use (I l) (.dx T x cy az)) (cH (I l) (.dx T x cy az)) dst os a K (dx C (I l) T (aD (I l) x) (jm (I l) cy) (jm (I l) az))) ∧
  (∀ (T : TypeId) (x : ax) (cy az : Option ax) (t : Nat), bZ C l dst (.dx T x cy az) t false os (some a) K (.bool false) = cU C l (t :: use (I l) (.dx T x cy az)) (cH (I l) (.dx T x cy az)) dst os a K (dx C (I l) T (aD (I l) x) (jm (I l) cy) (jm (I l) az))) ∧
  (∀ (T : TypeId) (x : ax) (k : Nat) (t : Nat), bZ C l dst (.bs T x k) t true os (some a) K (.bool true) = cU C l (t :: use (I l) (.bs T x k)) (cH (I l) (.bs T x k)) dst os a K (ct (I l) (bs C (I l) T (aD (I l) x) k))) ∧
  (∀ (T : TypeId) (x : ax) (k : Nat) (t : Nat), bZ C l dst (.bs T x k) t false os (some a) K (.bool false) = cU C l (t :: use (I l) (.bs T x k)) (cH (I l) (.bs T x k)) dst os a K (ct (I l) (bs C (I l) T (aD (I l) x) k))) ∧
  (∀ (T : TypeId) (x y : ax) (t : Nat), bZ C l dst (.cp T x y) t true os (some a) K (.bool true) = cU C l (t :: use (I l) (.cp T x y)) (cH (I l) (.cp T x y)) dst os a K (ct (I l) (cp C (I l) T (aD (I l) x) (aD (I l) y)))) ∧
  (∀ (T : TypeId) (x y : ax) (t : Nat), bZ C l dst (.cp T x y) t false os (some a) K (.bool false) = cU C l (t :: use (I l) (.cp T x y)) (cH (I l) (.cp T x y)) dst os a K (ct (I l) (cp C (I l) T (aD (I l) x) (aD (I l) y)))) ∧
  (∀ (T : TypeId) (x y : ax) (t : Nat), bZ C l dst (.idx T x y) t true os (some a) K (.bool true) = cU C l (t :: use (I l) (.idx T x y)) (cH (I l) (.idx T x y)) dst os a K (ct (I l) (idx C T (aD (I l) x) (aD (I l) y)))) ∧
  (∀ (T : TypeId) (x y : ax) (t : Nat), bZ C l dst (.idx T x y) t false os (some a) K (.bool false) = cU C l (t :: use (I l) (.idx T x y)) (cH (I l) (.idx T x y)) dst os a K (ct (I l) (idx C T (aD (I l) x) (aD (I l) y)))) ∧
  (∀ (x : ax) (k : Nat) (t : Nat), bZ C l dst (.ex x k) t true os (some a) K (.bool true) = cU C l (t :: use (I l) (.ex x k)) (cH (I l) (.ex x k)) dst os a K (ct (I l) (ex (I l) (aD (I l) x) k))) ∧
  (∀ (x : ax) (k : Nat) (t : Nat), bZ C l dst (.ex x k) t false os (some a) K (.bool false) = cU C l (t :: use (I l) (.ex x k)) (cH (I l) (.ex x k)) dst os a K (ct (I l) (ex (I l) (aD (I l) x) k))) ∧
  (∀ (T : TypeId) (x : ax) (t : Nat), bZ C l dst (.len T x) t true os (some a) K (.bool true) = cU C l (t :: use (I l) (.len T x)) (cH (I l) (.len T x)) dst os a K (ct (I l) (jV C (I l) T (aD (I l) x)))) ∧
  (∀ (T : TypeId) (x : ax) (t : Nat), bZ C l dst (.len T x) t false os (some a) K (.bool false) = cU C l (t :: use (I l) (.len T x)) (cH (I l) (.len T x)) dst os a K (ct (I l) (jV C (I l) T (aD (I l) x)))) ∧
  (∀ (T bn : TypeId) (x y : ax) (t : Nat), bZ C l dst (.app T bn x y) t true os (some a) K (.bool true) = cU C l (t :: use (I l) (.app T bn x y)) (cH (I l) (.app T bn x y)) dst os a K (jX C (I l) T bn (aD (I l) x) (aD (I l) y))) ∧
  (∀ (T bn : TypeId) (x y : ax) (t : Nat), bZ C l dst (.app T bn x y) t false os (some a) K (.bool false) = cU C l (t :: use (I l) (.app T bn x y)) (cH (I l) (.app T bn x y)) dst os a K (jX C (I l) T bn (aD (I l) x) (aD (I l) y))) :=
 ⟨fun x _ => (er rfl).trans (congrArg _ (qj x)), fun x _ => (er rfl).trans (congrArg _ (qj x)), fun x _ => (er rfl).trans (congrArg _ (qk x)), fun x _ => (er rfl).trans (congrArg _ (qk x)), fun c x y _ => (er rfl).trans (congrArg _ (ql c x y)), fun c x y _ => (er rfl).trans (congrArg _ (ql c x y)), fun T _ => (er rfl).trans (congrArg _ (qm T)), fun T _ => (er rfl).trans (congrArg _ (qm T)), fun T x _ => (er rfl).trans (congrArg _ (qn T x)), fun T x _ => (er rfl).trans (congrArg _ (qn T x)), fun T ps _ => (er rfl).trans (congrArg _ (qo T ps)), fun T ps _ => (er rfl).trans (congrArg _ (qo T ps)), fun T n ps _ => (er rfl).trans (congrArg _ (nc T n ps)), fun T n ps _ => (er rfl).trans (congrArg _ (nc T n ps)), fun T x _ => (er rfl).trans (congrArg _ (qp T x)), fun T x _ => (er rfl).trans (congrArg _ (qp T x)), fun T x y _ => (er rfl).trans (congrArg _ (qq T x y)), fun T x y _ => (er rfl).trans (congrArg _ (qq T x y)), fun x _ => (er rfl).trans (congrArg _ (qs x)), fun x _ => (er rfl).trans (congrArg _ (qs x)), fun op T x y _ => (er rfl).trans (congrArg _ (qt op T x y)), fun op T x y _ => (er rfl).trans (congrArg _ (qt op T x y)), fun op x _ => (er rfl).trans (congrArg _ (qu op x)), fun op x _ => (er rfl).trans (congrArg _ (qu op x)), fun A B x _ => (er rfl).trans (congrArg _ (qv A B x)), fun A B x _ => (er rfl).trans (congrArg _ (qv A B x)), fun f cs _ => (er rfl).trans (congrArg _ (qw f cs)), fun f cs _ => (er rfl).trans (congrArg _ (qw f cs)), fun T x y _ => (er rfl).trans (congrArg _ (qx T x y)), fun T x y _ => (er rfl).trans (congrArg _ (qx T x y)), fun T x cy az _ => (er rfl).trans (congrArg _ (qy T x cy az)), fun T x cy az _ => (er rfl).trans (congrArg _ (qy T x cy az)), fun T x k _ => (er rfl).trans (congrArg _ (qz T x k)), fun T x k _ => (er rfl).trans (congrArg _ (qz T x k)), fun T x y _ => (er rfl).trans (congrArg _ (qA T x y)), fun T x y _ => (er rfl).trans (congrArg _ (qA T x y)), fun T x y _ => (er rfl).trans (congrArg _ (qB T x y)), fun T x y _ => (er rfl).trans (congrArg _ (qB T x y)), fun x k _ => (er rfl).trans (congrArg _ (qC x k)), fun x k _ => (er rfl).trans (congrArg _ (qC x k)), fun T x _ => (er rfl).trans (congrArg _ (qD T x)), fun T x _ => (er rfl).trans (congrArg _ (qD T x)), fun T bn x y _ => (er rfl).trans (congrArg _ (qE T bn x y)), fun T bn x y _ => (er rfl).trans (congrArg _ (qE T bn x y))⟩
end
theorem B_ :
  (∀ (t : Nat) (k : IntKind) (n : Int), hr t (.int k n) = (.int k n)) ∧
  (∀ (t : Nat) (b : Bool), hr t (.bool b) = (.bool b)) ∧
  (∀ (t : Nat) (x : List UInt8), hr t (.str x) = (.str x)) ∧
  (∀ (t : Nat) (xs : List j), hr t (.slice xs) = (.slice xs)) ∧
  (∀ (t : Nat) (d : j), hr t (.ref d) = (.ref d)) ∧
  (∀ (t : Nat) (f : FuncId) (cap : List j), hr t (.fn f cap) = (.fn f cap)) ∧
  (∀ (t : Nat) (x : Nat) (q : List Nat), hr t (.h x q) = (.h x q)) ∧
  (∀ (t : Nat) (x : Nat) (q : List Nat), hr t (.ao x q) = (.ao x q)) ∧
  (∀ (t : Nat) , hr t .cW = .cW) ∧
  (∀ (t : Nat) , hr t .a_ = .a_) ∧
  (∀ (t : Nat) , hr t .dO = .dO) ∧
  (∀ (t : Nat) , hr t .hole = .hole) ∧
  (∀ (t : Nat) (sz : Nat) (xs : List j), hr t (.ay sz xs) = .h t []) ∧
  (∀ (t : Nat) (d : j), hr t (.bD d) = .h t []) ∧
  (∀ (t : Nat) (al : List j), hr t (.agg al) = if j.dz al = true then (.agg al) else .h t []) ∧
  (∀ (t : Nat) (al : List j), hr t (.tuple al) = if j.dz al = true then (.tuple al) else .h t []) :=
 ⟨fun _ _ _ => rfl, fun _ _ => rfl, fun _ _ => rfl, fun _ _ => rfl, fun _ _ => rfl, fun _ _ _ => rfl, fun _ _ _ => rfl, fun _ _ _ => rfl, fun _  => rfl, fun _  => rfl, fun _  => rfl, fun _  => rfl, fun _ _ _ => rfl, fun _ _ => rfl, fun _ _ => rfl, fun _ _ => rfl⟩
theorem Ca :
  (∀ (l : List (Nat × j)) (av : j), fin (I l) none av = I l) ∧
  (∀ (l : List (Nat × j)) (t : Nat) (k : IntKind) (n : Int), fin (I l) (some t) (.int k n) = I ((t, (.int k n)) :: l)) ∧
  (∀ (l : List (Nat × j)) (t : Nat) (b : Bool), fin (I l) (some t) (.bool b) = I ((t, (.bool b)) :: l)) ∧
  (∀ (l : List (Nat × j)) (t : Nat) (x : List UInt8), fin (I l) (some t) (.str x) = I ((t, (.str x)) :: l)) ∧
  (∀ (l : List (Nat × j)) (t : Nat) (xs : List j), fin (I l) (some t) (.slice xs) = I ((t, (.slice xs)) :: l)) ∧
  (∀ (l : List (Nat × j)) (t : Nat) (d : j), fin (I l) (some t) (.ref d) = I ((t, (.ref d)) :: l)) ∧
  (∀ (l : List (Nat × j)) (t : Nat) (f : FuncId) (cap : List j), fin (I l) (some t) (.fn f cap) = I ((t, (.fn f cap)) :: l)) ∧
  (∀ (l : List (Nat × j)) (t : Nat) (x : Nat) (q : List Nat), fin (I l) (some t) (.h x q) = I ((t, (.h x q)) :: l)) ∧
  (∀ (l : List (Nat × j)) (t : Nat) (x : Nat) (q : List Nat), fin (I l) (some t) (.ao x q) = I ((t, (.ao x q)) :: l)) ∧
  (∀ (l : List (Nat × j)) (t : Nat) , fin (I l) (some t) .cW = I ((t, .cW) :: l)) ∧
  (∀ (l : List (Nat × j)) (t : Nat) , fin (I l) (some t) .a_ = I ((t, .a_) :: l)) ∧
  (∀ (l : List (Nat × j)) (t : Nat) , fin (I l) (some t) .dO = I ((t, .dO) :: l)) ∧
  (∀ (l : List (Nat × j)) (t : Nat) , fin (I l) (some t) .hole = I ((t, .hole) :: l)) ∧
  (∀ (l : List (Nat × j)) (t : Nat) (sz : Nat) (xs : List j), fin (I l) (some t) (.ay sz xs) = I ((t, (.ay sz xs)) :: l8 t l)) ∧
  (∀ (l : List (Nat × j)) (t : Nat) (d : j), fin (I l) (some t) (.bD d) = I ((t, (.bD d)) :: l8 t l)) ∧
  (∀ (l : List (Nat × j)) (t : Nat) (al : List j), fin (I l) (some t) (.agg al) = I ((t, (.agg al)) :: if j.dz al = true then l else l8 t l)) ∧
  (∀ (l : List (Nat × j)) (t : Nat) (al : List j), fin (I l) (some t) (.tuple al) = I ((t, (.tuple al)) :: if j.dz al = true then l else l8 t l)) :=
 ⟨fun _ _ => rfl, fun l t _ _ => by simp only [fin, j.plain, if_true, i0], fun l t _ => by simp only [fin, j.plain, if_true, i0], fun l t _ => by simp only [fin, j.plain, if_true, i0], fun l t _ => by simp only [fin, j.plain, if_true, i0], fun l t _ => by simp only [fin, j.plain, if_true, i0], fun l t _ _ => by simp only [fin, j.plain, if_true, i0], fun l t _ _ => by simp only [fin, j.plain, if_true, i0], fun l t _ _ => by simp only [fin, j.plain, if_true, i0], fun l t  => by simp only [fin, j.plain, if_true, i0], fun l t  => by simp only [fin, j.plain, if_true, i0], fun l t  => by simp only [fin, j.plain, if_true, i0], fun l t  => by simp only [fin, j.plain, if_true, i0], fun l t _ _ => by simp only [fin, j.plain, Bool.false_eq_true, if_false, sl, i0], fun l t _ => by simp only [fin, j.plain, Bool.false_eq_true, if_false, sl, i0], fun l t _ => by simp only [fin, j.plain, sl, i0]; split <;> rfl, fun l t _ => by simp only [fin, j.plain, sl, i0]; split <;> rfl⟩
theorem yo :
  (∀ (k : IntKind) (n : Int), j.plain (.int k n) = true) ∧
  (∀ (b : Bool), j.plain (.bool b) = true) ∧
  (∀ (x : List UInt8), j.plain (.str x) = true) ∧
  (∀ (xs : List j), j.plain (.slice xs) = true) ∧
  (∀ (d : j), j.plain (.ref d) = true) ∧
  (∀ (f : FuncId) (cap : List j), j.plain (.fn f cap) = true) ∧
  (∀ (x : Nat) (q : List Nat), j.plain (.h x q) = true) ∧
  (∀ (x : Nat) (q : List Nat), j.plain (.ao x q) = true) ∧
  (j.plain .cW = true) ∧
  (j.plain .a_ = true) ∧
  (j.plain .dO = true) ∧
  (j.plain .hole = true) ∧
  (∀ (sz : Nat) (xs : List j), j.plain (.ay sz xs) = false) ∧
  (∀ (d : j), j.plain (.bD d) = false) ∧
  (∀ (al : List j), j.plain (.agg al) = j.dz al) ∧
  (∀ (al : List j), j.plain (.tuple al) = j.dz al) ∧
  (j.dz [] = true) ∧
  (∀ d ds, j.dz (d :: ds) = (d.plain && j.dz ds)) :=
 ⟨fun _ _ => rfl, fun _ => rfl, fun _ => rfl, fun _ => rfl, fun _ => rfl, fun _ _ => rfl, fun _ _ => rfl, fun _ _ => rfl, rfl, rfl, rfl, rfl, fun _ _ => rfl, fun _ => rfl, fun _ => rfl, fun _ => rfl, rfl, fun _ _ => rfl⟩
theorem Cb :
  (∀ (s : ag) (k : IntKind) (n : Int), hz s (.int k n) = some ((.int k n), s)) ∧
  (∀ (s : ag) (b : Bool), hz s (.bool b) = some ((.bool b), s)) ∧
  (∀ (s : ag) (x : List UInt8), hz s (.str x) = some ((.str x), s)) ∧
  (∀ (s : ag) (xs : List j), hz s (.slice xs) = some ((.slice xs), s)) ∧
  (∀ (s : ag) (d : j), hz s (.ref d) = some ((.ref d), s)) ∧
  (∀ (s : ag) (f : FuncId) (cap : List j), hz s (.fn f cap) = some ((.fn f cap), s)) ∧
  (∀ (s : ag) (x : Nat) (q : List Nat), hz s (.ao x q) = some ((.ao x q), s)) ∧
  (∀ (s : ag) , hz s .cW = some (.cW, s)) ∧
  (∀ (s : ag) , hz s .a_ = some (.a_, s)) ∧
  (∀ (s : ag) , hz s .dO = some (.dO, s)) ∧
  (∀ (s : ag) , hz s .hole = some (.hole, s)) ∧
  (∀ (s : ag) (sz : Nat) (xs : List j), hz s (.ay sz xs) = some ((.ay sz xs), s)) ∧
  (∀ (s : ag) (d : j), hz s (.bD d) = some ((.bD d), s)) ∧
  (∀ (s : ag) (al : List j), hz s (.agg al) = some ((.agg al), s)) ∧
  (∀ (s : ag) (al : List j), hz s (.tuple al) = some ((.tuple al), s)) ∧
  (∀ (s : ag) y q, hz s (.h y q) = cd s (.h y q)) :=
 ⟨fun _ _ _ => rfl, fun _ _ => rfl, fun _ _ => rfl, fun _ _ => rfl, fun _ _ => rfl, fun _ _ _ => rfl, fun _ _ _ => rfl, fun _  => rfl, fun _  => rfl, fun _  => rfl, fun _  => rfl, fun _ _ _ => rfl, fun _ _ => rfl, fun _ _ => rfl, fun _ _ => rfl, fun _ _ _ => rfl⟩
theorem Cc :
  (∀ (t : Nat) (k : IntKind) (n : Int), ca t (.int k n) = (.int k n)) ∧
  (∀ (t : Nat) (b : Bool), ca t (.bool b) = (.bool b)) ∧
  (∀ (t : Nat) (x : List UInt8), ca t (.str x) = (.str x)) ∧
  (∀ (t : Nat) (xs : List j), ca t (.slice xs) = (.slice xs)) ∧
  (∀ (t : Nat) (d : j), ca t (.ref d) = (.ref d)) ∧
  (∀ (t : Nat) , ca t .cW = .cW) ∧
  (∀ (t : Nat) , ca t .a_ = .a_) ∧
  (∀ (t : Nat) , ca t .dO = .dO) ∧
  (∀ (t : Nat) , ca t .hole = .hole) ∧
  (∀ (t : Nat) (sz : Nat) (xs : List j), ca t (.ay sz xs) = (.ay sz xs)) ∧
  (∀ (t : Nat) (d : j), ca t (.bD d) = (.bD d)) ∧
  (∀ (t : Nat) (al : List j), ca t (.agg al) = (.agg al)) ∧
  (∀ (t : Nat) (al : List j), ca t (.tuple al) = (.tuple al)) ∧
  (∀ (t y : Nat) q, ca t (.h y q) = if y = t then .hole else .h y q) ∧
  (∀ (t y : Nat) q, ca t (.ao y q) = if y = t then .hole else .ao y q) ∧
  (∀ (t : Nat) f c, ca t (.fn f c) = .fn f (hq t c)) ∧
  (∀ t, hq t [] = []) ∧
  (∀ t d ds, hq t (d :: ds) = ca t d :: hq t ds) ∧
  (∀ t, l8 t [] = []) ∧
  (∀ t u d l, l8 t ((u, d) :: l) = (u, ca t d) :: l8 t l) ∧
  (∀ t l, jS t (I l) = I (l8 t l)) :=
 ⟨fun _ _ _ => by unfold ca; rfl, fun _ _ => by unfold ca; rfl, fun _ _ => by unfold ca; rfl, fun _ _ => by unfold ca; rfl, fun _ _ => by unfold ca; rfl, fun _  => by unfold ca; rfl, fun _  => by unfold ca; rfl, fun _  => by unfold ca; rfl, fun _  => by unfold ca; rfl, fun _ _ _ => by unfold ca; rfl, fun _ _ => by unfold ca; rfl, fun _ _ => by unfold ca; rfl, fun _ _ => by unfold ca; rfl, fun _ _ _ => by unfold ca; rfl, fun _ _ _ => by unfold ca; rfl, fun _ _ _ => by simp only [ca], fun _ => by simp only [hq], fun _ _ _ => by simp only [hq], fun _ => rfl, fun _ _ _ _ => rfl, fun t l => sl t l⟩
theorem Cd :
  (∀ (t : Nat) (k : IntKind) (n : Int), bJ t (.int k n) = (.int k n)) ∧
  (∀ (t : Nat) (b : Bool), bJ t (.bool b) = (.bool b)) ∧
  (∀ (t : Nat) (x : List UInt8), bJ t (.str x) = (.str x)) ∧
  (∀ (t : Nat) (xs : List j), bJ t (.slice xs) = (.slice xs)) ∧
  (∀ (t : Nat) (d : j), bJ t (.ref d) = (.ref d)) ∧
  (∀ (t : Nat) , bJ t .cW = .cW) ∧
  (∀ (t : Nat) , bJ t .a_ = .a_) ∧
  (∀ (t : Nat) , bJ t .dO = .dO) ∧
  (∀ (t : Nat) , bJ t .hole = .hole) ∧
  (∀ (t : Nat) (sz : Nat) (xs : List j), bJ t (.ay sz xs) = (.ay sz xs)) ∧
  (∀ (t : Nat) (d : j), bJ t (.bD d) = (.bD d)) ∧
  (∀ (t : Nat) (al : List j), bJ t (.agg al) = (.agg al)) ∧
  (∀ (t : Nat) (al : List j), bJ t (.tuple al) = (.tuple al)) ∧
  (∀ (t y : Nat), bJ t (.h y []) = .h y []) ∧
  (∀ (t y k : Nat) q, bJ t (.h y (k :: q)) = if y = t then .hole else .h y (k :: q)) ∧
  (∀ (t y : Nat) q, bJ t (.ao y q) = if y = t then .hole else .ao y q) ∧
  (∀ (t : Nat) f c, bJ t (.fn f c) = .fn f (gY t c)) ∧
  (∀ t, gY t [] = []) ∧
  (∀ t d ds, gY t (d :: ds) = bJ t d :: gY t ds) ∧
  (∀ t, oW t [] = []) ∧
  (∀ t u d l, oW t ((u, d) :: l) = (u, bJ t d) :: oW t l) ∧
  (∀ t l, g9 t (I l) = I (oW t l)) :=
 ⟨fun _ _ _ => by unfold bJ; rfl, fun _ _ => by unfold bJ; rfl, fun _ _ => by unfold bJ; rfl, fun _ _ => by unfold bJ; rfl, fun _ _ => by unfold bJ; rfl, fun _  => by unfold bJ; rfl, fun _  => by unfold bJ; rfl, fun _  => by unfold bJ; rfl, fun _  => by unfold bJ; rfl, fun _ _ _ => by unfold bJ; rfl, fun _ _ => by unfold bJ; rfl, fun _ _ => by unfold bJ; rfl, fun _ _ => by unfold bJ; rfl, fun _ _ => by simp [bJ], fun _ _ _ _ => by simp [bJ], fun _ _ _ => by unfold bJ; rfl, fun _ _ _ => by simp only [bJ], fun _ => by simp only [gY], fun _ _ _ => by simp only [gY], fun _ => rfl, fun _ _ _ _ => rfl, fun t l => Ji t l⟩
def yp : ke → Bool → Option j
 | .bool, b => some (.bool b)
 | _, _ => none
def o0 (neg : Bool) : ke → Option (Option Bool) → Option j
 | .slice _, some r => some (rM neg r)
 | _, _ => none
def o1 (neg : Bool) : ke → Option Bool → Option j
 | .ptr _, some b => some (.bool (b != neg))
 | _, _ => none
theorem Ce (C : bN) (s : ag) (T : TypeId) :
  (∀ op k a dh b, aK C s op T (.int k a) (.int dh b) = hc op k a dh b) ∧
  (∀ op a b, aK C s op T (.str a) (.str b) = kD op a b) ∧
  (∀ a b, aK C s .eql T (.bool a) (.bool b) = yp (C.T T).k (a == b)) ∧
  (∀ a b, aK C s .neq T (.bool a) (.bool b) = yp (C.T T).k (!(a == b))) ∧
  (∀ xs, aK C s .eql T (.slice xs) .a_ = o0 false (C.T T).k (jd s (.slice xs))) ∧
  (∀ xs, aK C s .neq T (.slice xs) .a_ = o0 true (C.T T).k (jd s (.slice xs))) ∧
  (aK C s .eql T .a_ .a_ = o0 false (C.T T).k (jd s .a_)) ∧
  (aK C s .neq T .a_ .a_ = o0 true (C.T T).k (jd s .a_)) ∧
  (∀ x q, aK C s .eql T (.h x q) .a_ = o0 false (C.T T).k (jd s (.h x q))) ∧
  (∀ x q, aK C s .neq T (.h x q) .a_ = o0 true (C.T T).k (jd s (.h x q))) ∧
  (∀ x q, aK C s .eql T (.h x q) .cW = o1 false (C.T T).k (je s (.h x q))) ∧
  (∀ x q, aK C s .neq T (.h x q) .cW = o1 true (C.T T).k (je s (.h x q))) ∧
  (∀ d, aK C s .eql T (.ref d) .cW = o1 false (C.T T).k (je s (.ref d))) ∧
  (∀ d, aK C s .neq T (.ref d) .cW = o1 true (C.T T).k (je s (.ref d))) ∧
  (aK C s .eql T .cW .cW = o1 false (C.T T).k (je s .cW)) ∧
  (aK C s .neq T .cW .cW = o1 true (C.T T).k (je s .cW)) := by
 refine ⟨?_, ?_, ?_, ?_, ?_, ?_, ?_, ?_, ?_, ?_, ?_, ?_, ?_, ?_, ?_, ?_⟩ <;> intros <;> first
  | rfl
  | (simp only [aK]
     generalize (C.T T).k = iJ
     cases iJ <;> first | rfl | (simp only [o0]; generalize jd s _ = v; cases v <;> rfl) | (simp only [o1]; generalize je s _ = v; cases v <;> (try (rename_i b; cases b)) <;> rfl))
theorem Cf (k : IntKind) (a b : Int) :
  hc .add k a k b = some (.int k (k.wrap (a + b))) ∧ hc .sub k a k b = some (.int k (k.wrap (a - b))) ∧ hc .mul k a k b = some (.int k (k.wrap (a * b))) ∧
  hc .eql k a k b = some (.bool (a == b)) ∧ hc .neq k a k b = some (.bool (a != b)) ∧ hc .lss k a k b = some (.bool (decide (a < b))) ∧ hc .leq k a k b = some (.bool (decide (a ≤ b))) ∧
  hc .gtr k a k b = some (.bool (decide (b < a))) ∧ hc .geq k a k b = some (.bool (decide (b ≤ a))) ∧
  hc .and k a k b = some (.int k (bitsOf .and k a b)) ∧ hc .or k a k b = some (.int k (bitsOf .or k a b)) ∧ hc .xor k a k b = some (.int k (bitsOf .xor k a b)) ∧ hc .andNot k a k b = some (.int k (bitsOf .andNot k a b)) := by
 simp [hc]
theorem J1 {k : IntKind} {a b : Int} (h : b ≠ 0) : hc .quo k a k b = some (.int k (k.wrap (a.tdiv b))) := by simp [hc, h]
theorem J2 {k : IntKind} {a b : Int} (h : b ≠ 0) : hc .rem k a k b = some (.int k (a.tmod b)) := by simp [hc, h]
theorem Cg (a b : List UInt8) :
  kD .eql a b = some (.bool (a == b)) ∧ kD .neq a b = some (.bool !(a == b)) ∧ kD .lss a b = some (.bool (Op.bytesLess a b)) ∧
  kD .leq a b = some (.bool (Op.bytesLess a b || a == b)) ∧ kD .gtr a b = some (.bool !(Op.bytesLess a b || a == b)) ∧ kD .geq a b = some (.bool !(Op.bytesLess a b)) := by
 refine ⟨rfl, rfl, rfl, rfl, rfl, rfl⟩
theorem Ch : (∀ b, un .not (.bool b) = some (.bool !b)) ∧ (un .not .dO = some .dO) ∧ (∀ k n, un .neg (.int k n) = some (.int k (k.wrap (0 - n)))) := ⟨fun _ => rfl, rfl, fun _ _ => rfl⟩
def yq : ke → Option UInt8 → Option j
 | .str, some c => some (.int .u8 c.toNat)
 | _, _ => none
theorem Ci (C : bN) (T : TypeId) (l : List UInt8) (k : IntKind) (n : Int) : idx C T (.str l) (.int k n) = yq (C.T T).k (cx l n) := by
 simp only [idx, cx]
 generalize (C.T T).k = iJ
 cases iJ <;> first | rfl | (simp only [yq]; split <;> first | rfl | (cases l[n.toNat]? <;> rfl))
def yr (C : bN) : ke → Option j → Option j
 | .slice e, some d => if (C.T e).ok = true ∧ d.wd = (C.T e).sz then some (.ref d) else none
 | _, _ => none
theorem Cj (C : bN) (s : ag) (T : TypeId) (xs : List j) (k : IntKind) (n : Int) : cp C s T (.slice xs) (.int k n) = yr C (C.T T).k (cx xs n) := by
 simp only [cp, cx]
 generalize (C.T T).k = iJ
 cases iJ <;> first | rfl | skip
 simp only [yr]
 by_cases bp : 0 ≤ n
 ·simp only [bp, true_and, if_true]
  split
  ·cases xs[n.toNat]? <;> simp [*]
  ·cases xs[n.toNat]? <;> simp [*]
 ·simp only [bp, false_and, if_false]
def sr (C : bN) (y : Nat) (q : List Nat) (n : Int) : ke → Option j → Option j
 | .slice e, some (.ay sz xs) => if (cx xs n).isSome = true ∧ (C.T e).ok = true ∧ sz = (C.T e).sz then some (.ao y (q ++ [n.toNat])) else none
 | _, _ => none
theorem Ck (C : bN) (s : ag) (T : TypeId) (y : Nat) (q : List Nat) (k : IntKind) (n : Int) : cp C s T (.h y q) (.int k n) = sr C y q n (C.T T).k (j.sub q (s y)) := by
 simp only [cp]
 generalize (C.T T).k = iJ
 cases iJ <;> first | rfl | skip
 rename_i e
 cases U : j.sub q (s y) with
 | none => simp [sr]
 | some d =>
   cases d <;> first
    | (simp [sr]; done)
    | skip
   rename_i sz xs
   have bH : (cx xs n).isSome = true ↔ 0 ≤ n ∧ n.toNat < xs.length := by
    unfold cx; split <;> simp_all <;> omega
   simp only [sr, bH]
   by_cases bp : 0 ≤ n <;> by_cases aa : (C.T e).ok = true <;> simp [bp, aa]
def qF : ke → ag → Option (List UInt8) → Option (j × ag)
 | .str, s, some t => some (.str t, s)
 | _, _, _ => none
def qG (C : bN) : ke → ag → List j → Option (List j) → Option (j × ag)
 | .slice e, s, xs, some t => if (C.T e).ok = true ∧ ∀ d ∈ xs, d.wd = (C.T e).sz then some (.slice t, s) else none
 | _, _, _, _ => none
theorem Cl (C : bN) (s : ag) (T : TypeId) (l : List UInt8) :
  (∀ k a dh b, dx C s T (.str l) (some (.int k a)) (some (.int dh b)) = qF (C.T T).k s (gU l a b)) ∧
  (∀ dh b, dx C s T (.str l) none (some (.int dh b)) = qF (C.T T).k s (gU l 0 b)) ∧
  (∀ k a, dx C s T (.str l) (some (.int k a)) none = qF (C.T T).k s (gU l a l.length)) := by
 have e : ∀ (cy az : Option j) (a b : Int), (hG 0 cy = if 0 ≤ a then some a.toNat else none) → (hG l.length az = if 0 ≤ b then some b.toNat else none) → dx C s T (.str l) cy az = qF (C.T T).k s (gU l a b) := by
  intro cy az a b aa ab
  simp only [dx]
  generalize (C.T T).k = iJ
  cases iJ <;> first | rfl | skip
  simp only [aa, ab, gU]
  by_cases b1 : 0 ≤ a <;> by_cases J : 0 ≤ b <;> simp only [b1, J, if_true, if_false, qF, true_and, false_and]
  ·by_cases aj : a ≤ b ∧ b ≤ l.length
   ·rw [if_pos ⟨by omega, by omega⟩, if_pos aj]
   ·rw [if_neg (fun h => aj ⟨by omega, by omega⟩), if_neg aj]
  ·rw [if_neg (by omega)]
 exact ⟨fun k a dh b => e _ _ a b rfl rfl, fun dh b => e _ _ 0 b rfl rfl, fun k a => e _ _ a l.length rfl (by simp [hG])⟩
theorem Cm (C : bN) (s : ag) (T : TypeId) (xs : List j) :
  (∀ k a dh b, dx C s T (.slice xs) (some (.int k a)) (some (.int dh b)) = qG C (C.T T).k s xs (gU xs a b)) ∧
  (∀ dh b, dx C s T (.slice xs) none (some (.int dh b)) = qG C (C.T T).k s xs (gU xs 0 b)) ∧
  (∀ k a, dx C s T (.slice xs) (some (.int k a)) none = qG C (C.T T).k s xs (gU xs a xs.length)) := by
 have e : ∀ (cy az : Option j) (a b : Int), (hG 0 cy = if 0 ≤ a then some a.toNat else none) → (hG xs.length az = if 0 ≤ b then some b.toNat else none) → dx C s T (.slice xs) cy az = qG C (C.T T).k s xs (gU xs a b) := by
  intro cy az a b aa ab
  simp only [dx]
  generalize (C.T T).k = iJ
  cases iJ <;> first | rfl | skip
  simp only [aa, ab, gU]
  by_cases b1 : 0 ≤ a <;> by_cases J : 0 ≤ b <;> simp only [b1, J, if_true, if_false, qG, true_and, false_and]
  ·by_cases aj : a ≤ b ∧ b ≤ xs.length
   ·rw [if_pos aj]
    have aa : a.toNat ≤ b.toNat := by omega
    have ab : b.toNat ≤ xs.length := by omega
    simp only [aa, ab, true_and]
   ·rw [if_neg (fun h => aj ⟨by omega, by omega⟩), if_neg aj]
  ·rw [if_neg (by omega)]
 exact ⟨fun k a dh b => e _ _ a b rfl rfl, fun dh b => e _ _ 0 b rfl rfl, fun k a => e _ _ a xs.length rfl (by simp [hG])⟩
def ss (q : List Nat) : Option j → Option j
 | some d => j.sub q d
 | none => none
theorem Cn : (∀ d, j.sub [] d = some d) ∧ (∀ k q al, j.sub (k :: q) (.agg al) = ss q al[k]?) ∧ (∀ k q al, j.sub (k :: q) (.tuple al) = ss q al[k]?) ∧ (∀ k q sz xs, j.sub (k :: q) (.ay sz xs) = ss q xs[k]?) ∧
  (∀ q d, j.sub (0 :: q) (.bD d) = j.sub q d) ∧ (∀ q d, ss q (some d) = j.sub q d) ∧
  (∀ k q a b, j.sub (k :: q) (.int a b) = none) := by
 refine ⟨fun d => by simp [j.sub], ?_, ?_, ?_, fun q d => by simp [j.sub], fun _ _ => rfl, fun _ _ _ _ => by simp [j.sub]⟩
 ·intro k q al; simp only [j.sub]; cases al[k]? <;> rfl
 ·intro k q al; simp only [j.sub]; cases al[k]? <;> rfl
 ·intro k q sz al; simp only [j.sub]; cases al[k]? <;> rfl
def Co (k : Nat) (q : List Nat) (n : j) (al : List j) : Option j → j
 | some d => .agg (al.set k (j.put q n d))
 | none => .agg al
def Cp (k : Nat) (q : List Nat) (n : j) (al : List j) : Option j → j
 | some d => .tuple (al.set k (j.put q n d))
 | none => .tuple al
def Cq (k : Nat) (q : List Nat) (n : j) (sz : Nat) (xs : List j) : Option j → j
 | some d => .ay sz (xs.set k (j.put q n d))
 | none => .ay sz xs
theorem Cr : (∀ n d, j.put [] n d = n) ∧ (∀ k q n al, j.put (k :: q) n (.agg al) = Co k q n al al[k]?) ∧ (∀ k q n al, j.put (k :: q) n (.tuple al) = Cp k q n al al[k]?) ∧
  (∀ k q n sz xs, j.put (k :: q) n (.ay sz xs) = Cq k q n sz xs xs[k]?) ∧ (∀ q n d, j.put (0 :: q) n (.bD d) = .bD (j.put q n d)) ∧
  (∀ k q n al d, Co k q n al (some d) = .agg (al.set k (j.put q n d))) ∧ (∀ k q n al d, Cp k q n al (some d) = .tuple (al.set k (j.put q n d))) ∧
  (∀ k q n sz xs d, Cq k q n sz xs (some d) = .ay sz (xs.set k (j.put q n d))) := by
 refine ⟨fun n d => by simp [j.put], ?_, ?_, ?_, fun q n d => by simp [j.put], fun _ _ _ _ _ => rfl, fun _ _ _ _ _ => rfl, fun _ _ _ _ _ _ => rfl⟩
 ·intro k q n al; simp only [j.put]; cases al[k]? <;> rfl
 ·intro k q n al; simp only [j.put]; cases al[k]? <;> rfl
 ·intro k q n sz al; simp only [j.put]; cases al[k]? <;> rfl
theorem ys : (∀ k n, j.wd (.int k n) = 1) ∧ (∀ b, j.wd (.bool b) = 1) ∧ (∀ x, j.wd (.str x) = 1) ∧ (∀ x, j.wd (.slice x) = 1) ∧ (∀ n x, j.wd (.ay n x) = 1) ∧ (∀ x, j.wd (.ref x) = 1) ∧ (∀ x, j.wd (.bD x) = 1) ∧
  j.wd .a_ = 1 ∧ j.wd .cW = 1 ∧ j.wd .hole = 1 ∧ j.wd .dO = 1 ∧ (∀ x y, j.wd (.h x y) = 1) ∧ (∀ x y, j.wd (.ao x y) = 1) ∧ (∀ x y, j.wd (.fn x y) = 1) ∧ (∀ al, j.wd (.agg al) = j.dm al) ∧ (∀ al, j.wd (.tuple al) = j.dm al) ∧ j.dm [] = 0 ∧ (∀ d ds, j.dm (d :: ds) = d.wd + j.dm ds) := by
 simp [j.wd, j.dm]
theorem J3 {α : Type} {e : α → j} {n : Nat} (h : ∀ x, (e x).wd = n) (xs : List α) : (∀ d ∈ xs.map e, d.wd = n) = True := by
 simp only [List.mem_map, eq_iff_iff, iff_true]
 rintro d ⟨x, _, rfl⟩; exact h x
theorem J4 (C : bN) (s : ag) (A B : TypeId) (k dh : IntKind) (n : Int) (hd : (C.T A).ok = true) (fJ : (C.T B).k = .int dh) : ey C s A B (.int k n) = some (.int dh (dh.wrap n)) := by
 simp only [ey, hd, fJ, if_true]
theorem Cs (m : Int) : iK (mU m) = .int .u8 (IntKind.u8.wrap m) := by
 have h : 0 ≤ IntKind.u8.wrap m ∧ IntKind.u8.wrap m < 256 := by rw [IntKind.wrap_u8]; omega
 simp only [iK, mU, UInt8.toNat_ofNat']
 congr 1
 omega
theorem yt (m : Int) : ((mU m).toNat : Int) = IntKind.u8.wrap m := by
 have h := Cs m
 simpa [iK] using h
section
variable {C : bN} {l : List (Nat × j)} {Q : Exit → ag → Prop} {s : ag}
theorem i1 {ros : List cq} {k : List Nat} (h : bQ C (I l) ros none (fun _ s => Q .normal (I (hK k s)))) : db C (.ad ros (some k)) Q (I l) := uB (fun _ _ h => h) h
theorem ba {a b : R} (h : ∀ fw : Exit → ag → Prop, (∀ s, fv (db C b Q) s → fw .normal s) → (∀ s, Q .ret s → fw .ret s) → (∀ i s, Q (.exit i) s → fw (.exit i) s) → db C a fw s) : db C (.seq a b) Q s :=
 h _ (fun _ h => h) (fun _ h => h) (fun _ _ h => h)
theorem cX {ros : List cq} {k : List Nat} {b : R} (h : bQ C (I l) ros none (fun _ s => db C b Q (I (hK k s)))) : db C (.seq (.ad ros (some k)) b) Q (I l) := uB (fun _ _ h => .inl h) h
theorem lz {ros : List cq} {fu : List (List Nat)} {k : List Nat} {b : R} (hlen : fu.length = ros.length) (h : bQ C (I l) ros (some []) (fun acc s => km (qi fu) 0 [] (acc.getD []).reverse = true ∧ db C b Q (I (hK k s)))) :
  db C (.seq (.hJ ros fu (some k)) b) Q (I l) := JQ (K := fun s => fv (db C b Q) (I (hK k s))) hlen (by
   have key : ∀ (os : List cq) (s : ag) (acc : Option (List ea)), bQ C s os acc (fun acc s => km (qi fu) 0 [] (acc.getD []).reverse = true ∧ db C b Q (I (hK k s))) →
     bQ C s os acc (fun acc s => km (qi fu) 0 [] (acc.getD []).reverse = true ∧ fv (db C b Q) (I (hK k s))) := by
    intro os
    induction os with
    | nil => intro s acc h; exact ⟨h.1, .inl h.2⟩
    | cons o os ih =>
      intro s acc h
      have mono : ∀ {s : ag} {bd : eD} {K cK : List Nat → j → ag → Prop}, (∀ a b c, K a b c → cK a b c) → kJ C s bd K → kJ C s bd cK := by
       intro s bd K cK aw h
       cases bd with
       | call f args =>
         obtain ⟨g, caps, ps, r, aa, eJ, ab, aE, aZ, bG, b7, b5, dG⟩ := h
         exact ⟨g, caps, ps, r, aa, eJ, ab, aE, aZ, bG, b7, b5, aw _ _ _ dG⟩
       | shr bd => obtain ⟨av, s1, aa, ab, aE, aZ⟩ := h; exact ⟨av, s1, aa, ab, aE, aw _ _ _ aZ⟩
       | ki f args u x =>
         obtain ⟨b9, cj, g, caps, ps, r, aa, eJ, ab, aE, aZ, bG, b7, b5, dG, gJ, fO⟩ := h
         exact ⟨b9, cj, g, caps, ps, r, aa, eJ, ab, aE, aZ, bG, b7, b5, dG, gJ, aw _ _ _ fO⟩
       | jg f args us =>
         obtain ⟨cj, g, caps, ps, r, aa, eJ, ab, aE, aZ, bG, b7, b5, dG, gJ⟩ := h
         exact ⟨cj, g, caps, ps, r, aa, eJ, ab, aE, aZ, bG, b7, b5, dG, aw _ _ _ gJ⟩
       | _ => obtain ⟨av, s1, aa, ab⟩ := h; exact ⟨av, s1, aa, aw _ _ _ ab⟩
      simp only [bQ, j3] at h ⊢
      split
      ·rename_i bH; rw [bH] at h; exact mono (fun _ _ _ => ih _ _) h
      ·rename_i t ew bH
       rw [bH] at h
       simp only at h
       split
       ·rename_i aag U
        rw [U] at h
        simp only at h
        split
        ·rename_i J; rw [if_pos J] at h; exact mono (fun _ _ _ => ih _ _) h
        ·rename_i J; rw [if_neg J] at h; exact ih _ _ h
       ·rename_i U; rw [U] at h; exact ih _ _ h
       ·rename_i aa ab
        split at h
        ·exact aa _ (by assumption)
        ·exact ab (by assumption)
        ·exact h
   exact key _ _ _ h)
theorem bt {c : ax} {a b : R} (aj : aD s c = .bool true) (h : db C a Q s) : db C (.cond c a b) Q s := by simp only [db, aj, if_true]; exact h
theorem bx {c : ax} {a b : R} (aj : aD s c = .bool false) (h : db C b Q s) : db C (.cond c a b) Q s := by simp only [db, aj]; exact h
theorem cE {id : Nat} {b : R} (h : ∀ fw : Exit → ag → Prop, (∀ s, Q .normal s → fw .normal s) → (∀ s, Q .ret s → fw .ret s) → (∀ s, Q .normal s → fw (.exit id) s) → (∀ i s, i ≠ id → Q (.exit i) s → fw (.exit i) s) → db C b fw s) : db C (.block id b) Q s :=
 h (p_ id Q) (fun _ h => h) (fun _ h => h) (fun s h => by simp only [p_, if_true]; exact h) (fun i s az h => by simp only [p_, if_neg az]; exact h)
theorem eL {id : Nat} (h : Q (.exit id) s) : db C (.exit id) Q s := h
theorem a6 (h : Q .ret s) : db C .ret Q s := h
theorem bF (h : Q .normal s) : db C .skip Q s := h
def eA (C : bN) (b : R) (Q : Exit → ag → Prop) (s : ag) : Prop := ∀ Z : ag → Prop, (∀ ak, db C b (andThen (fv Z) Q) ak → Z ak) → Z s
theorem e4 {b : R} (h : fv (eA C b Q) s) : db C (.loop b) Q s := h
theorem e5 {b : R} (h : ∀ fw : Exit → ag → Prop, (∀ s, fv (eA C b Q) s → fw .normal s) → (∀ s, Q .ret s → fw .ret s) → (∀ i s, Q (.exit i) s → fw (.exit i) s) → db C b fw s) : eA C b Q s := by
 intro Z qb
 refine qb s (BH b ?_ (h (andThen (fv (eA C b Q)) Q) (fun _ h => h) (fun _ h => h) (fun _ _ h => h)))
 intro e ak bq
 cases e with
 | normal => exact qa (fun s h => h Z qb) ak bq
 | _ => exact bq
theorem cB {dA : List (Nat × j)} (h : dA.map (·.2) = dA.map fun p => s p.1) : p9 s dA := by
 intro p ao
 left
 induction dA with
 | nil => cases ao
 | cons a dA ih =>
   simp only [List.map_cons, List.cons.injEq] at h
   rcases List.mem_cons.1 ao with rfl | ao
   ·exact h.1
   ·exact ih h.2 ao
end
section
variable {C : bN} {l : List (Nat × j)} {Q : Exit → ag → Prop} {s : ag} {os ros : List cq} {K : Option (List ea) → ag → Prop} {dst : Option Nat}
theorem Ct (l : List (Nat × j)) : (∀ n, aD (I l) (.t n) = hr n (I l n)) ∧ (∀ av, aD (I l) (.c av) = av) ∧ (∀ g, aD (I l) (.f g) = .fn g []) := ⟨fun _ => rfl, fun _ => rfl, fun _ => rfl⟩
theorem Cu : (∀ t, I [] t = .hole) ∧ (∀ u d (l : List (Nat × j)) t, I ((u, d) :: l) t = if t = u then d else I l t) := ⟨fun _ => rfl, fun _ _ _ _ => rfl⟩
theorem Cv (s : ag) : hK [] s = [] ∧ (∀ t k, hK (t :: k) s = (t, s t) :: hK k s) := ⟨rfl, fun _ _ => rfl⟩
theorem Cw (s : ag) : (∀ d, ct s (some d) = some (d, s)) ∧ (∀ s1, eW (some s1) = some (.hole, s1)) ∧ gC s [] = [] ∧ (∀ x xs, gC s (x :: xs) = aD s x :: gC s xs) ∧ iz s [] = [] ∧ (∀ k x xs, iz s ((k, x) :: xs) = (k, aD s x) :: iz s xs) ∧
  jm s none = none ∧ (∀ x, jm s (some x) = some (aD s x)) ∧ (∀ b x y, nP s (.bool b) x y = some (if b = true then x else y, s)) :=
 ⟨fun _ => rfl, fun _ => rfl, rfl, fun _ _ => rfl, rfl, fun _ _ _ => rfl, rfl, fun _ => rfl, fun b _ _ => by cases b <;> rfl⟩
theorem Cx (C : bN) : (∀ e d, yr C (.slice e) (some d) = if (C.T e).ok = true ∧ d.wd = (C.T e).sz then some (.ref d) else none) ∧
  (∀ y q n e sz xs, sr C y q n (.slice e) (some (.ay sz xs)) = if (cx xs n).isSome = true ∧ (C.T e).ok = true ∧ sz = (C.T e).sz then some (.ao y (q ++ [n.toNat])) else none) ∧
  (∀ e s xs t, qG C (.slice e) s xs (some t) = if (C.T e).ok = true ∧ ∀ d ∈ xs, d.wd = (C.T e).sz then some (.slice t, s) else none) :=
 ⟨fun _ _ => rfl, fun _ _ _ _ _ _ => rfl, fun _ _ _ _ => rfl⟩
theorem Cy : (∀ b, yp .bool b = some (.bool b)) ∧ (∀ c, yq .str (some c) = some (.int .u8 c.toNat)) ∧ (∀ s t, qF .str s (some t) = some (.str t, s)) ∧ (∀ q d, ss q (some d) = j.sub q d) :=
 ⟨fun _ => rfl, fun _ => rfl, fun _ _ => rfl, fun _ _ => rfl⟩
theorem Cz (sz bytes : Nat) (z : j) : (∀ k, fq.ok ⟨.int k, sz, bytes, z⟩ = true) ∧ fq.ok ⟨.bool, sz, bytes, z⟩ = true ∧ fq.ok ⟨.str, sz, bytes, z⟩ = true ∧ (∀ e, fq.ok ⟨.ptr e, sz, bytes, z⟩ = true) ∧ (∀ e, fq.ok ⟨.slice e, sz, bytes, z⟩ = true) ∧ (∀ e, fq.ok ⟨.struct e, sz, bytes, z⟩ = true) ∧ fq.ok ⟨.fn, sz, bytes, z⟩ = true := by
 simp [fq.ok]
theorem CA (sz bytes : Nat) (z : j) : (∀ k, fq.flat ⟨.int k, sz, bytes, z⟩ = true) ∧ fq.flat ⟨.bool, sz, bytes, z⟩ = true ∧ fq.flat ⟨.str, sz, bytes, z⟩ = true ∧ (∀ e, fq.flat ⟨.ptr e, sz, bytes, z⟩ = true) ∧ (∀ e, fq.flat ⟨.slice e, sz, bytes, z⟩ = true) ∧ (∀ e, fq.flat ⟨.struct e, sz, bytes, z⟩ = false) ∧ fq.flat ⟨.fn, sz, bytes, z⟩ = true := by
 simp [fq.flat]
theorem su (c : UInt8) (k : IntKind) (aw : k ≠ .i8) : k.wrap (c.toNat : Int) = (c.toNat : Int) := by
 have := c.toNat_lt
 cases k <;> first | (exact (aw rfl).elim) | (simp [IntKind.wrap, IntKind.bits, IntKind.signed]; try omega)
theorem yu (c : UInt8) : IntKind.i64.wrap (c.toNat : Int) = (c.toNat : Int) ∧ IntKind.u64.wrap (c.toNat : Int) = (c.toNat : Int) ∧ IntKind.u8.wrap (c.toNat : Int) = (c.toNat : Int) ∧ IntKind.i32.wrap (c.toNat : Int) = (c.toNat : Int) ∧ IntKind.u32.wrap (c.toNat : Int) = (c.toNat : Int) :=
 ⟨su c _ (by simp), su c _ (by simp), su c _ (by simp), su c _ (by simp), su c _ (by simp)⟩
theorem cu {k : List Nat} {K : ag → Prop} (dA : List (Nat × j)) (h : ∀ P : List (Nat × j) → Prop, P dA → bQ C (I l) ros none (fun _ s => P (hK k s))) (aw : K (I dA)) : bQ C (I l) ros none (fun _ s => K (I (hK k s))) :=
 h (fun l => K (I l)) aw
theorem lA {k : List Nat} {kn : List (List Nat)} {K : ag → Prop} (dA : List (Nat × j)) (h : ∀ P : List (Nat × j) → Prop, P dA → bQ C (I l) ros (some []) (fun acc s => km kn 0 [] (acc.getD []).reverse = true ∧ P (hK k s))) (aw : K (I dA)) :
  bQ C (I l) ros (some []) (fun acc s => km kn 0 [] (acc.getD []).reverse = true ∧ K (I (hK k s))) :=
 h (fun l => K (I l)) aw
theorem aX.J5 (bm : C.Ok) {f : FuncId} {fn : Func} {c : Code} {eK : R} {fx : List Nat} {as outs : List j} {r : j} (bL : C.P.funcs[f]? = some fn) (J : fn.body = some c)
  (kI : (fn.name == "runtime.NumGoroutine") = false) (U : b0 ⟨fn.ntmps, fx⟩ c = some eK.strip) (bh : as.length ≤ fn.ntmps)
  (h : ∀ Q : Exit → ag → Prop, (∀ s, fv (Ends C fx fn.results.toList r outs) s → Q .ret s) → (∀ s, fv (Ends C fx fn.results.toList r outs) s → Q .normal s) → db C eK Q (I (num 0 as))) (ao : eK.plain = true := by kernel_rfl) : aX C f as r outs := by
 refine aX.of_wp bm bL J kI U bh ?_ ao
 rw [yb]
 exact h _ (fun s h => ⟨.inr rfl, h⟩) (fun s h => ⟨.inl rfl, h⟩)
def J6 : List j → j
 | [d] => d
 | ds => .tuple ds
theorem a7 {fx : List Nat} {fK : List ResultVar} {r : j} {outs : List j} (ds : List j) (aa : fK.map (nN C s) = ds.map some) (ab : r = J6 ds) (aE : (fK.map ic).Nodup)
  (aZ : ∀ (i : Nat) (o : j), outs[i]? = some o → o = .hole ∨ (o = s i ∧ o.e9 = true ∧ i ∈ fx ∧ i ∉ fK.map ic)) : Ends C fx fK r outs s := ⟨ds, aa, by subst ab; cases ds with | nil => rfl | cons a t => cases t <;> rfl, aE, aZ⟩
theorem bc {fx : List Nat} {fK : List ResultVar} : ∀ (i : Nat) (o : j), ([] : List j)[i]? = some o → o = .hole ∨ (o = s i ∧ o.e9 = true ∧ i ∈ fx ∧ i ∉ fK.map ic) := fun i o h => by simp at h
theorem CB : ∀ (as ds : List j), (j2 as ds).filter (·.g) = []
 | [], _ => rfl
 | _ :: _, [] => rfl
 | a :: as, d :: ds => by simp only [j2, List.filter_cons]; exact CB as ds
theorem uG {f : ax} {args : List ax} {g : FuncId} {caps : List j} {K : List Nat → j → ag → Prop} (ds : List j) (r : j)
  (aa : aD (I l) f = .fn g caps) (eJ : j.dz caps = true) (hI : views (I l) (gC (I l) args ++ caps) = some ds)
  (bG : aX C g ds r []) (b7 : r.res = true) (b5 : j.c2 (gC (I l) args ++ caps) = [] ∨ r.cY = true) (iM : K [] r (I l)) : kJ C (I l) (.call f args) K := by
 obtain ⟨aJ, aT, bb, cn, c1, b6, bS⟩ := Jj _ _ hI
 refine ⟨g, caps, j2 (gC (I l) args ++ caps) ds, r, aa, eJ, by rw [aJ, sq], fun p ao => (bb p ao).1, cn, by rw [aT]; exact bG.outs c1.symm, b7, ?_, by rw [b6, bS, CB]; exact iM⟩
 intro hl
 refine ⟨?_, fun p ao => by rw [(bb p ao).2.2.1]; rfl⟩
 rcases b5 with b5 | b5
 ·exfalso
  simp only [ix, List.any_eq_true] at hl
  obtain ⟨p, ao, gj⟩ := hl
  have hm := (bb p ao).2.2.2
  have : p.a.U = [] := by
   have key : ∀ (as : List j) (a : j), a ∈ as → j.c2 as = [] → a.U = [] := by
    intro as
    induction as with
    | nil => intro a h; cases h
    | cons b as ih =>
      intro a h he
      simp only [j.c2, List.append_eq_nil_iff] at he
      rcases List.mem_cons.1 h with rfl | h
      ·exact he.1
      ·exact ih a h he.2
   exact key _ _ hm b5
  rw [this] at gj; simp at gj
 ·exact b5
theorem eb {f : ax} {args : List ax} {g : FuncId} {caps : List j} {ds : List j} {r : j} (bG : aX C g ds r [])
  (aa : aD (I l) f = .fn g caps) (eJ : j.dz caps = true) (hI : views (I l) (gC (I l) args ++ caps) = some ds)
  (b7 : r.res = true) (b5 : j.c2 (gC (I l) args ++ caps) = [] ∨ r.cY = true)
  (iM : bQ C (fin (I l) dst r) os none K) : bQ C (I l) (⟨dst, .call f args, none⟩ :: os) none K := by
 simp only [bQ, j3, mH]
 exact uG ds r aa eJ hI bG b7 b5 iM
theorem mI {a : List ea} {f : ax} {args : List ax} {g : FuncId} {caps : List j} {ds : List j} {r : j} (bG : aX C g ds r [])
  (aa : aD (I l) f = .fn g caps) (eJ : j.dz caps = true) (hI : views (I l) (gC (I l) args ++ caps) = some ds)
  (b7 : r.res = true) (b5 : j.c2 (gC (I l) args ++ caps) = [] ∨ r.cY = true)
  (iM : bQ C (fin (I l) dst r) os (some (hg (I l) (use (I l) (.call f args)) dst [] r :: a)) K) : bQ C (I l) (⟨dst, .call f args, none⟩ :: os) (some a) K := by
 simp only [bQ, j3, mH]
 exact uG ds r aa eJ hI bG b7 b5 iM
theorem iA {t : Nat} {b : Bool} {f : ax} {args : List ax} {g : FuncId} {caps : List j} {ds : List j} {r : j} (bG : aX C g ds r [])
  (aa : aD (I l) f = .fn g caps) (eJ : j.dz caps = true) (hI : views (I l) (gC (I l) args ++ caps) = some ds)
  (b7 : r.res = true) (b5 : j.c2 (gC (I l) args ++ caps) = [] ∨ r.cY = true)
  (iM : bQ C (fin (I l) dst r) os none K) : bZ C l dst (.call f args) t b os none K (.bool b) := by
 simp only [bZ, if_true]
 exact uG ds r aa eJ hI bG b7 b5 iM
theorem CC {a : List ea} {t : Nat} {b : Bool} {f : ax} {args : List ax} {g : FuncId} {caps : List j} {ds : List j} {r : j} (bG : aX C g ds r [])
  (aa : aD (I l) f = .fn g caps) (eJ : j.dz caps = true) (hI : views (I l) (gC (I l) args ++ caps) = some ds)
  (b7 : r.res = true) (b5 : j.c2 (gC (I l) args ++ caps) = [] ∨ r.cY = true)
  (iM : bQ C (fin (I l) dst r) os (some (hg (I l) (t :: use (I l) (.call f args)) dst [] r :: a)) K) : bZ C l dst (.call f args) t b os (some a) K (.bool b) := by
 simp only [bZ, if_true]
 exact uG ds r aa eJ hI bG b7 b5 iM
theorem gn (s : ag) : views s [] = some [] ∧ (∀ d ds, views s (d :: ds) = (match view s d, views s ds with | some a, some b => some (a :: b) | _, _ => none)) ∧
  (∀ k n, view s (.int k n) = some (.int k n)) ∧ (∀ b, view s (.bool b) = some (.bool b)) ∧ (∀ x, view s (.str x) = some (.str x)) ∧ (∀ x, view s (.slice x) = some (.slice x)) ∧ (∀ x, view s (.ref x) = some (.ref x)) ∧
  view s .a_ = some .a_ ∧ view s .cW = some .cW ∧ (∀ al, view s (.agg al) = some (.agg al)) ∧ (∀ f cap, view s (.fn f cap) = (views s cap).map (.fn f)) := by
 refine ⟨rfl, fun d ds => ?_, fun _ _ => rfl, fun _ => rfl, fun _ => rfl, fun _ => rfl, fun _ => rfl, rfl, rfl, fun _ => rfl, fun _ _ => by simp only [view]⟩
 simp only [views]; rfl
theorem cm {α : Type} {u e : α → j} (h : ∀ x, (u x).share = e x) (xs : List α) : j.shares (xs.map u) = xs.map e := by
 rw [j.oh]; simp [h]
theorem lB {α : Type} {u : α → j} (h : ∀ x, (u x).cY = true) (xs : List α) : j.h7 (xs.map u) = true := by
 induction xs with
 | nil => rfl
 | cons x xs ih => simp only [List.map_cons, j.h7, h, ih, Bool.and_self]
def nQ (s : ag) (H : List Nat) : List (Nat × j) → Prop
 | [] => True
 | p :: l => (p.2 = s p.1 ∨ ((s p.1).tree = true ∧ dS (s p.1) p.2 ∧ p.1 ∉ H)) ∧ nQ s H l
theorem o2 {dA : List (Nat × j)} (H : List Nat) (ib : j.c2 (dA.map (·.2)) = H) (h : nQ s H dA) : p9 s dA := by
 have key : ∀ (gB : List (Nat × j)), nQ s H gB → ∀ p ∈ gB, p.2 = s p.1 ∨ ((s p.1).tree = true ∧ dS (s p.1) p.2 ∧ p.1 ∉ H) := by
  intro gB
  induction gB with
  | nil => intro _ p ao; cases ao
  | cons a gB ih =>
    intro h p ao
    rcases List.mem_cons.1 ao with rfl | ao
    ·exact h.1
    ·exact ih h.2 p ao
 have U : ∀ (gB : List (Nat × j)), ∀ b2 ∈ gB, ∀ u ∈ b2.2.U, u ∈ j.c2 (gB.map (·.2)) := by
  intro gB
  induction gB with
  | nil => intro p ao; cases ao
  | cons a gB ih =>
    intro p ao u hu
    simp only [List.map_cons, j.c2, List.mem_append]
    rcases List.mem_cons.1 ao with rfl | ao
    ·exact .inl hu
    ·exact .inr (ih p ao u hu)
 intro p ao
 rcases key _ h p ao with aa | ⟨aa, ab, aE⟩
 ·exact .inl aa
 ·refine .inr ⟨aa, ab, fun b2 dj => .inl fun hm => aE ?_⟩
  rw [← ib]; exact U dA b2 dj _ hm
theorem o3 {H : List Nat} : nQ s H [] := trivial
theorem lC {H : List Nat} {t : Nat} {d : j} {dA : List (Nat × j)} (h : d = s t) (hl : nQ s H dA) : nQ s H ((t, d) :: dA) := ⟨.inl h, hl⟩
theorem o4 {H : List Nat} {t : Nat} {d bj : j} {dA : List (Nat × j)} (e : s t = d) (aP : d.tree = true) (af : dS d bj) (ib : t ∉ H) (hl : nQ s H dA) : nQ s H ((t, bj) :: dA) := ⟨.inr ⟨by rw [e]; exact aP, by rw [e]; exact af, ib⟩, hl⟩
theorem CD {a b : j} (h : dS a b) : ∀ n, iy (List.replicate n a) (List.replicate n b)
 | 0 => .nil
 | n + 1 => by simp only [List.replicate_succ]; exact .cons h (CD h n)
theorem CE {α : Type} {sz : Nat} {u : α → j} {z : α} {a : j} (h : dS a (u z)) (n : Nat) : dS (.ay sz (List.replicate n a)) (.ay sz ((List.replicate n z).map u)) := by
 rw [List.map_replicate]; exact .ay (CD h n)
end
theorem CF {C : bN} {A B : TypeId} {dh : IntKind} (hd : (C.T A).ok = true) (fJ : (C.T B).k = .int dh) : ∀ s k n, ey C s A B (.int k n) = some (.int dh (dh.wrap n)) := fun s k n => J4 C s A B k dh n hd fJ
def CG : Option j → Option j
 | some (.ay 1 xs) => (bytesOf xs).map .str
 | _ => none
theorem CH {C : bN} {A B e : TypeId} (hd : (C.T A).k = .slice e) (fJ : (C.T B).k = .str) (he : (C.T e).k = .int .u8) :
  (∀ s xs, ey C s A B (.slice xs) = (bytesOf xs).map .str) ∧ (∀ s, ey C s A B .a_ = some (.str [])) ∧ (∀ s x q, ey C s A B (.h x q) = CG (j.sub q (s x))) := by
 have rY : (C.T A).ok = true := by simp [fq.ok, hd]
 refine ⟨fun s xs => ?_, fun s => ?_, fun s x q => ?_⟩
 ·simp only [ey, rY, hd, fJ, he, if_true]
 ·simp only [ey, rY, hd, fJ, he, if_true]
 ·simp only [ey, rY, hd, fJ, he, if_true]
  rfl
theorem CI (xs : List j) : CG (some (.ay 1 xs)) = (bytesOf xs).map .str := rfl
theorem CJ (c : UInt8) (r : List j) : bytesOf (iK c :: r) = (bytesOf r).map (c :: ·) := by
 have := c.toNat_lt
 simp only [iK, bytesOf]
 rw [if_pos (by omega)]
 simp
theorem CK : bytesOf [] = some [] ∧ (∀ l : List UInt8, bytesOf (l.map iK) = some l) ∧ (∀ (c : UInt8) r, bytesOf (.int .u8 (c.toNat : Int) :: r) = (bytesOf r).map (c :: ·)) ∧
  (∀ m r, bytesOf (.int .u8 (IntKind.u8.wrap m) :: r) = (bytesOf r).map (mU m :: ·)) :=
 ⟨rfl, GW, fun c r => CJ c r, fun m r => by rw [← Cs]; exact CJ _ r⟩
theorem J7 {k : IntKind} {b : Int} (h : b ≠ 0) : ∀ a, hc .quo k a k b = some (.int k (k.wrap (a.tdiv b))) := fun _ => J1 h
theorem CL {k : IntKind} {b : Int} (h : b ≠ 0) : ∀ a, hc .rem k a k b = some (.int k (a.tmod b)) := fun _ => J2 h
theorem kL {α : Type} {e : α → j} {n : Nat} (h : ∀ x, (e x).wd = n) : ∀ xs : List α, (∀ d ∈ xs.map e, d.wd = n) = True := J3 h
theorem all_cons {P : j → Prop} (d : j) (ds : List j) : (∀ x ∈ d :: ds, P x) = (P d ∧ ∀ x ∈ ds, P x) := by simp
theorem all_nil {P : j → Prop} : (∀ x ∈ ([] : List j), P x) = True := by simp
def CM (a b : List UInt8) : Option Unit → Option j
 | some _ => some (.str (a ++ b))
 | none => none
theorem uH (a b : List UInt8) : kD .add a b = CM a b (mo (a.length + b.length)) := by
 simp only [kD, mo]; split <;> rfl
theorem uI (a b : List UInt8) (u : Unit) : CM a b (some u) = some (.str (a ++ b)) := rfl
theorem CN : (∀ l : List Nat, [] ++ l = l) ∧ (∀ a (l m : List Nat), (a :: l) ++ m = a :: (l ++ m)) := ⟨fun _ => rfl, fun _ _ _ => rfl⟩
def CO (C : bN) (e bn : TypeId) : Bool := (C.T e).ok && ((C.T e).zero.wd == (C.T e).sz) && (flat (C.T e).zero).isSome && tZ C e bn
def uJ (C : bN) (e : TypeId) (xs : List j) : Option (List j × ag) → Option (j × ag)
 | some (bM, s2) => if (∀ d ∈ bM, d.wd = (C.T e).sz) ∧ (room (C.T e).bytes (xs.length + bM.length)).isSome = true then some (.ay (C.T e).sz (xs ++ bM), s2) else none
 | none => none
def yv (C : bN) (e : TypeId) (y : j) (o : Option Nat) : Option (j × ag) → Option (j × ag)
 | some (.ay sz xs, s1) => if sz = (C.T e).sz then uJ C e xs (jh s1 (iU o y)) else none
 | _ => none
theorem J8 (b n : Nat) : (room b n).isSome = true ↔ n * b ≤ 140737488355328 ∧ n ≤ 9223372036854775807 := by unfold room; split <;> simp_all
theorem kM {C : bN} {T bn e : TypeId} (mr : (C.T T).k = .slice e) (fi : CO C e bn = true) : ∀ s x y, jX C s T bn x y = yv C e y x.owner (mD C e s x) := by
 intro s x y
 simp only [CO, Bool.and_eq_true, beq_iff_eq] at fi
 rw [xH, mr]
 simp only
 rw [if_pos ⟨fi.1.1.1, fi.1.1.2, fi.1.2, fi.2⟩]
 generalize x.owner = o
 cases mD C e s x with
 | none => rfl
 | some p =>
   obtain ⟨d, s1⟩ := p
   cases d <;> first
    | rfl
    | (simp only [yv]
       split
       ·rename_i h; subst h
        generalize jh s1 (iU o y) = z
        cases z with
        | none => rfl
        | some p => simp only [uJ, J8]
       ·rfl)
def CP : Option (j × ag) → Option (List j × ag)
 | some (.ay _ bM, s2) => some (bM, s2)
 | _ => none
theorem kN (s : ag) : jh s .a_ = some ([], s) ∧ (∀ bM, jh s (.slice bM) = some (bM, s)) ∧ (∀ l, jh s (.str l) = some (l.map iK, s)) ∧
  (∀ a q, jh s (.h a q) = CP (cd s (.h a q))) ∧ (∀ n bM, CP (some (.ay n bM, s)) = some (bM, s)) :=
 ⟨rfl, fun _ => rfl, fun _ => rfl, fun _ _ => by simp only [jh]; rfl, fun _ _ => rfl⟩
theorem kO (C : bN) (e : TypeId) : (∀ s, mD C e s .a_ = some (.ay (C.T e).sz [], s)) ∧ (∀ s a q, mD C e s (.h a q) = cd s (.h a q)) ∧
  (∀ y o sz xs s1, yv C e y o (some (.ay sz xs, s1)) = if sz = (C.T e).sz then uJ C e xs (jh s1 (iU o y)) else none) ∧
  (∀ xs bM s2, uJ C e xs (some (bM, s2)) = if (∀ d ∈ bM, d.wd = (C.T e).sz) ∧ (room (C.T e).bytes (xs.length + bM.length)).isSome = true then some (.ay (C.T e).sz (xs ++ bM), s2) else none) :=
 ⟨fun _ => rfl, fun _ _ _ => rfl, fun _ _ _ _ _ => rfl, fun _ _ _ => rfl⟩
theorem kP : (∀ d, iU none d = d) ∧ (∀ x d, iU (some x) d = bJ x d) ∧ (∀ x q, j.owner (.h x q) = some x) ∧ j.owner .a_ = none :=
 ⟨fun _ => rfl, fun _ _ => rfl, fun _ _ => rfl, rfl⟩
def CQ (s : ag) (x : Nat) (q : List Nat) : Option j → Option (j × ag)
 | some d => if d.plain = true then none else some (d, cS (g9 x s) x (j.put q d.cD (s x)))
 | none => none
theorem CR (s : ag) (x : Nat) (q : List Nat) : cd s (.h x q) = CQ s x q (j.sub q (s x)) := by
 simp only [cd]; cases j.sub q (s x) <;> rfl
theorem CS (s : ag) : (∀ x q d, CQ s x q (some d) = if d.plain = true then none else some (d, cS (g9 x s) x (j.put q d.cD (s x)))) ∧ (∀ k n, cd s (.int k n) = some (.int k n, s)) ∧ (∀ b, cd s (.bool b) = some (.bool b, s)) ∧ (∀ x, cd s (.str x) = some (.str x, s)) ∧
  (∀ x, cd s (.slice x) = some (.slice x, s)) ∧ (∀ x, cd s (.ref x) = some (.ref x, s)) ∧ (∀ x, cd s (.agg x) = some (.agg x, s)) ∧ cd s .a_ = some (.a_, s) ∧ cd s .cW = some (.cW, s) :=
 ⟨fun _ _ _ => rfl, fun _ _ => rfl, fun _ => rfl, fun _ => rfl, fun _ => rfl, fun _ => rfl, fun _ => rfl, rfl, rfl⟩
theorem CT (l : List (Nat × j)) (t : Nat) (d : j) : cS (I l) t d = I ((t, d) :: l) := i0 l t d
theorem CU : (∀ n x, j.cD (.ay n x) = .hole) ∧ (∀ x, j.cD (.bD x) = .hole) ∧ (∀ al, j.cD (.agg al) = .agg (j.i_ al)) ∧ (∀ al, j.cD (.tuple al) = .tuple (j.i_ al)) ∧ j.i_ [] = [] ∧ (∀ d ds, j.i_ (d :: ds) = d.cD :: j.i_ ds) ∧
  (∀ k n, j.cD (.int k n) = .int k n) ∧ (∀ b, j.cD (.bool b) = .bool b) ∧ (∀ x, j.cD (.str x) = .str x) ∧ (∀ x, j.cD (.slice x) = .slice x) ∧ (∀ x, j.cD (.ref x) = .ref x) ∧ j.cD .a_ = .a_ ∧ j.cD .cW = .cW ∧ j.cD .hole = .hole := by
 simp [j.cD, j.i_]
def o5 : Option j → Option j
 | some d => (match d with | .tuple _ => none | d => if d.plain = true then none else some d.share)
 | none => none
def o6 : Option j → Option j
 | some d => (match d with | .tuple _ => none | d => some (.ref d.share))
 | none => none
theorem gp (s : ag) (x : Nat) (q : List Nat) : view s (.h x q) = o5 (j.sub q (s x)) ∧ view s (.ao x q) = (if j.ei q (s x) = true then o6 (j.sub q (s x)) else none) := by
 constructor
 ·simp only [view]; rfl
 ·simp only [view]; rfl
theorem gq : (∀ n xs, o5 (some (.ay n xs)) = some (.slice (j.shares xs))) ∧ (∀ d, o5 (some (.bD d)) = some (.ref d.share)) ∧ (∀ al, o5 (some (.agg al)) = if j.dz al = true then none else some (.agg (j.shares al))) ∧
  (∀ al, o6 (some (.agg al)) = some (.ref (.agg (j.shares al)))) ∧ (∀ k n, o6 (some (.int k n)) = some (.ref (.int k n))) ∧ (∀ x, o6 (some (.str x)) = some (.ref (.str x))) :=
 ⟨fun _ _ => by simp [o5, j.plain, j.share], fun _ => by simp [o5, j.plain, j.share], fun al => by cases h : j.dz al <;> simp [o5, j.plain, j.share, h], fun _ => by simp [o6, j.share], fun _ _ => by simp [o6, j.share], fun _ => by simp [o6, j.share]⟩
theorem dE : (∀ n xs, j.share (.ay n xs) = .slice (j.shares xs)) ∧ (∀ d, j.share (.bD d) = .ref d.share) ∧ (∀ xs, j.share (.slice xs) = .slice (j.shares xs)) ∧ (∀ d, j.share (.ref d) = .ref d.share) ∧ (∀ al, j.share (.agg al) = .agg (j.shares al)) ∧ (∀ al, j.share (.tuple al) = .tuple (j.shares al)) ∧
  (∀ k n, j.share (.int k n) = .int k n) ∧ (∀ b, j.share (.bool b) = .bool b) ∧ (∀ x, j.share (.str x) = .str x) ∧ j.share .a_ = .a_ ∧ j.share .cW = .cW ∧ j.shares [] = [] ∧ (∀ d ds, j.shares (d :: ds) = d.share :: j.shares ds) := by
 simp [j.share, j.shares]
theorem fT : (∀ k n, j.owner (.int k n) = none) ∧ (∀ b, j.owner (.bool b) = none) ∧ (∀ x, j.owner (.str x) = none) ∧ (∀ x, j.owner (.slice x) = none) ∧ (∀ x, j.owner (.ref x) = none) ∧ (∀ x, j.owner (.agg x) = none) ∧ j.owner .cW = none ∧ j.owner .a_ = none ∧ (∀ x q, j.owner (.h x q) = some x) :=
 ⟨fun _ _ => rfl, fun _ => rfl, fun _ => rfl, fun _ => rfl, fun _ => rfl, fun _ => rfl, rfl, rfl, fun _ _ => rfl⟩
end Go.cM
