/- Part of a proof that a law returns true for every input. No condition. -/
import Derived.Test.YtjedocbdhlppdaaFwE
import Derived.Orders
import Derived.KernelRfl
import Derived.Test.YtjedocbdhlppdaaFwA
namespace Go.dp
section
variable {C : b1} {w0 w : World} {F0 X : Nat → Prop} {n : Fr} {ρ : Nat → Value} {s s1 : ao} {a : Act} {av : j} {Q : Exit → Act → World → Prop}
def cA.un (o : cA) : cA := ⟨o.dst, o.bz.base, o.guard⟩
theorem Bh {ops : Array Oper} : ∀ {os : List Oper} {rs : List cA}, n8 n ops os = some rs → os.length = rs.length ∧ ∀ (i : Nat) (o : Oper), os[i]? = some o → ∃ r, rs[i]? = some r ∧ n7 n ops o = some r := by
 intro os
 induction os with
 | nil => intro rs h; simp only [n8, Option.some.injEq] at h; subst h; exact ⟨rfl, fun i o h => by simp at h⟩
 | cons o os ih =>
   intro rs h
   simp only [n8] at h
   split at h
   ·rename_i r ajq ag ah
    simp only [Option.some.injEq] at h; subst h
    obtain ⟨ch, cu⟩ := ih ah
    refine ⟨by simp [ch], fun i mf cr => ?_⟩
    cases i with
    | zero => simp at cr; subst cr; exact ⟨r, rfl, ag⟩
    | succ i => simpa using cu i mf (by simpa using cr)
   ·cases h
theorem Bi {o : Oper} {y : Nat → Option Bool} (h : o.guard = none) : Region.wanted o y = true := by simp [Region.wanted, h]
theorem Nj (h : Rel w0 F0 X n ρ s a w) {ops : Array Oper} {aK t : Nat} (cS : (ops[aK]?).bind (·.dst) = some t) :
  (∀ b, s t = .bool b → yielded ops a.tmps aK = some b) ∧ (s t = .tuple [] → yielded ops a.tmps aK = none) := by
 obtain ⟨ak, ab, bY, F, S, a2⟩ := h
 have iN := a2.dJ t
 refine ⟨fun b U => ?_, fun U => ?_⟩
 ·rw [U] at iN
  have aQ := qG iN
  simp only [yielded, cS, Option.bind_some]
  rw [Array.getD_eq_getD_getElem?] at aQ
  cases bQ : a.tmps[t]? with
  | none => rw [bQ] at aQ; simp [undef] at aQ
  | some v => rw [bQ] at aQ; simp at aQ; subst aQ; rfl
 ·rw [U] at iN
  obtain ⟨⟨arr, ag, ah⟩, _⟩ := (aL.cJ (d := .tuple []) rfl).1 iN
  simp only [yielded, cS, Option.bind_some]
  rw [Array.getD_eq_getD_getElem?] at ag
  cases bQ : a.tmps[t]? with
  | none => rfl
  | some v => rw [bQ] at ag; simp at ag; subst ag; rfl
theorem Bj (bt : C.eO) {ops : Array Oper} {ros : List cA} {l2 : List Nat} {K : ao → Prop} (bh : ∀ aC cN aS, K aC → Rel w0 F0 X n ρ aC cN aS → wpOps C.P ops Q l2 cN aS) :
  ∀ (l : List Nat), (∀ i ∈ l, (ops[i]? = none → ros[i]? = none) ∧ ∀ o, ops[i]? = some o → ∃ r, ros[i]? = some r ∧ n7 n ops o = some r.un) →
  ∀ (s : ao) (a : Act) (w : World), ig C ros s l K → Rel w0 F0 X n ρ s a w → wpOps C.P ops Q (l ++ l2) a w := by
 intro l
 induction l with
 | nil => intro _ s a w h a2; exact bh s a w h a2
 | cons i l ih =>
   intro px s a w h a2
   replace ih := ih fun i au => px i (List.mem_cons_of_mem _ au)
   rw [List.cons_append]
   simp only [wpOps]
   cases cr : ops[i]? with
   | none =>
     simp only [ig, (px i (by simp)).1 cr] at h
     exact ih s a w h a2
   | some o =>
     obtain ⟨r, ag, ah⟩ := (px i (by simp)).2 o cr
     simp only [ig, ag] at h
     show (if Region.wanted o (yielded ops a.tmps) = true then o.wp C.P a w (wpOps C.P ops Q (l ++ l2)) Q ∨ (o.asks C.P a w ∧ LetsOut Q) else wpOps C.P ops Q (l ++ l2) (a.put o.dst undef) w)
     simp only [n7] at ah
     split at ah
     ·rename_i xm
      split at ah
      ·rename_i g bQ
       obtain ⟨rd, bz, rg⟩ := r
       simp only [cA.un, Option.some.injEq, cA.mk.injEq] at ah
       obtain ⟨rfl, cB, rfl⟩ := ah
       simp only [kR] at h
       have run : ∀ (df : ao → Prop), (∀ aC, df aC → ig C ros aC l K) → mR C s bz (fun av s1 => df (fin s1 o.dst av)) → o.wp C.P a w (wpOps C.P ops Q (l ++ l2)) Q :=
        fun df js hw => Nh bt a2 cB xm hw (fun aC cN aS aB ek => ih aC cN aS (js aC aB) ek)
       cases sv : o.guard with
       | none =>
         rw [sv] at bQ
         simp only [uE, Option.some.injEq] at bQ; subst bQ
         simp only at h
         rw [if_pos (Bi sv)]
         exact .inl (run _ (fun _ h => h) h)
       | some Bk =>
         obtain ⟨aK, b⟩ := Bk
         rw [sv] at bQ
         simp only [uE] at bQ
         split at bQ
         ·rename_i t a3
          simp only [Option.some.injEq] at bQ; subst bQ
          simp only at h
          obtain ⟨fO, iZ⟩ := Nj a2 a3
          have Fg : ∀ (df : ig C ros (fin s o.dst (.tuple [])) l K), wpOps C.P ops Q (l ++ l2) (a.put o.dst undef) w := fun df => ih _ _ _ df (Rel.skip a2 xm)
          split at h
          ·rename_i fl ab
           have bL := fO fl ab
           split at h
           ·rename_i U; subst U
            rw [if_pos (by simp [Region.wanted, sv, bL])]
            exact .inl (run _ (fun _ h => h) h)
           ·rename_i U
            rw [if_neg (by simp [Region.wanted, sv, bL, U])]
            exact Fg h
          ·rename_i ab
           have bL := iZ ab
           rw [if_neg (by simp [Region.wanted, sv, bL])]
           exact Fg h
          ·exact h.elim
         ·cases bQ
      ·cases ah
     ·cases ah
theorem Fh (bt : C.eO) {ops : Array Oper} {ros : List cA} (py : n8 n ops ops.toList = some (ros.map cA.un)) {K : ao → Prop} (bh : ∀ aC cN aS, K aC → Rel w0 F0 X n ρ aC cN aS → Q .normal cN aS) :
  ∀ (l : List Nat) (s : ao) (a : Act) (w : World), ig C ros s l K → Rel w0 F0 X n ρ s a w → wpOps C.P ops Q l a w := by
 obtain ⟨hl, px⟩ := Bh py
 intro l s a w h a2
 have := Bj (Q := Q) bt (ros := ros) (ops := ops) (l2 := []) (K := K) (n := n) (ρ := ρ) (w0 := w0) (F0 := F0) (X := X) (fun aC cN aS aB ek => bh aC cN aS aB ek) l (fun i _ => ⟨fun cr => by
   rw [List.getElem?_eq_none_iff, ← List.length_map (f := cA.un), ← hl]
   have := Array.getElem?_eq_none_iff.1 cr
   simpa using this, fun o cr => by
   obtain ⟨aJ, hk, ah⟩ := px i o (by simpa using cr)
   obtain ⟨r, ag, rfl⟩ : ∃ r, ros[i]? = some r ∧ r.un = aJ := by simpa using hk
   exact ⟨r, ag, ah⟩⟩) s a w h a2
 rwa [List.append_nil] at this
theorem Rel.drawn (h : Rel w0 F0 X n ρ s a w) (k : Nat) : Rel w0 F0 X n ρ s a { w with drawn := k } := by
 obtain ⟨ag, ah, bY, F, S, aM⟩ := h
 exact ⟨ag, ah, bY, F, S, aM.grow (fun _ _ => rfl) (Nat.le_refl _) rfl rfl rfl⟩
theorem Nk (bt : C.eO) {id : Nat} {ops : Array Oper} {ros : List cA} (py : n8 n ops ops.toList = some (ros.map cA.un)) {K : ao → Prop} (bh : ∀ aC cN aS, K aC → Rel w0 F0 X n ρ aC cN aS → Q .normal cN aS)
  (h : kz C s ros K) (a2 : Rel w0 F0 X n ρ s a w) : (Code.region id ops false).wp C.P Q a w := by
 refine wp_region (Fh bt py bh _ s a w ?_ a2)
 have := MY C K ros [] s h
 have hl := (Bh py).1
 simp only [List.nil_append, List.length_nil, Nat.add_zero, List.map_id'] at this
 rw [List.length_map] at hl
 rw [← hl] at this
 simpa using this
end
def nq (nr : List (List Nat)) (l : List Nat) : Prop :=
 l.Nodup ∧ (∀ i, i ∈ l ↔ i < nr.length) ∧ ∀ u i v, l = u ++ i :: v → ∀ e ∈ (nr[i]?).getD [], e ∈ u
def mS (ops : Array Oper) : List (List Nat) := ops.toList.map fun o => (o.after.toList.filter fun e => Region.binds .any e).map (·.on)
def uH (nr : List (List Nat)) : Bool := nr.zipIdx.all fun p => p.1.all fun e => decide (e < p.2)
theorem Nl {nr : List (List Nat)} (h : uH nr = true) {i : Nat} {l : List Nat} (au : nr[i]? = some l) : ∀ e ∈ l, e < i := by
 intro e he
 simp only [uH, List.all_eq_true] at h
 have := h (l, i) (by rw [List.mem_zipIdx_iff_getElem?]; exact au) e he
 simpa using this
theorem Nm {ops : Array Oper} (U : uH (mS ops) = true) : ∀ (fuel t : Nat) (fQ : Array Bool), fQ.size = ops.size → ((List.range ops.size).filter fun i => !fQ.getD i true).length ≤ fuel →
  (Region.linearise.go .any ops fuel t fQ []).Nodup ∧ (∀ i, i ∈ Region.linearise.go .any ops fuel t fQ [] ↔ (i < ops.size ∧ fQ.getD i true = false)) ∧
   ∀ u i v, Region.linearise.go .any ops fuel t fQ [] = u ++ i :: v → ∀ e ∈ ((mS ops)[i]?).getD [], fQ.getD e false = true ∨ e ∈ u := by
 intro fuel
 induction fuel with
 | zero =>
   intro t fQ ab hl
   have ui : ((List.range ops.size).filter fun i => !fQ.getD i true) = [] := List.length_eq_zero_iff.1 (Nat.le_zero.1 hl)
   refine ⟨by simp [Region.linearise.go], fun i => ?_, fun u i v h => by simp [Region.linearise.go] at h⟩
   simp only [Region.linearise.go, List.reverse_nil, List.not_mem_nil, false_iff, not_and]
   intro au bY
   have : i ∈ ((List.range ops.size).filter fun i => !fQ.getD i true) := List.mem_filter.2 ⟨List.mem_range.2 au, by rw [bY]; rfl⟩
   rw [ui] at this; cases this
 | succ fuel ih =>
   intro t fQ ab hl
   have Fi : ∀ i, i ∈ Region.ready .any ops fQ ↔ (i < ops.size ∧ fQ.getD i true = false ∧ ∀ e ∈ ((mS ops)[i]?).getD [], fQ.getD e false = true) := by
    intro i
    simp only [Region.ready, List.mem_filter, List.mem_range, Bool.and_eq_true, Bool.not_eq_true']
    constructor
    ·rintro ⟨ag, ah, aM⟩
     refine ⟨ag, ah, ?_⟩
     rw [Array.getElem?_eq_getElem ag] at aM
     simp only [Option.map_some, Option.getD_some, Array.all_eq_true_iff_forall_mem] at aM
     simp only [mS, List.getElem?_map, Array.getElem?_toList, Array.getElem?_eq_getElem ag, Option.map_some, Option.getD_some, List.mem_map, List.mem_filter]
     rintro e ⟨x, ⟨aw, Bl⟩, rfl⟩
     have := aM x (by simpa using aw)
     simpa [Bl] using this
    ·rintro ⟨ag, ah, aM⟩
     refine ⟨ag, ah, ?_⟩
     rw [Array.getElem?_eq_getElem ag]
     simp only [Option.map_some, Option.getD_some, Array.all_eq_true_iff_forall_mem]
     simp only [mS, List.getElem?_map, Array.getElem?_toList, Array.getElem?_eq_getElem ag, Option.map_some, Option.getD_some, List.mem_map, List.mem_filter] at aM
     intro x aw
     cases Bl : Region.binds .any x with
     | false => simp
     | true => simpa using aM x.on ⟨x, ⟨by simpa using aw, Bl⟩, rfl⟩
   have hex : (∃ i, i < ops.size ∧ fQ.getD i true = false) → Region.ready .any ops fQ ≠ [] := by
    rintro ⟨i, ag, ah⟩
    have : ∃ i, (i < ops.size ∧ fQ.getD i true = false) ∧ ∀ aK, aK < i → ¬ (aK < ops.size ∧ fQ.getD aK true = false) := by
     induction i using Nat.strongRecOn with
     | _ i Nn =>
       by_cases cS : ∃ aK, aK < i ∧ (aK < ops.size ∧ fQ.getD aK true = false)
       ·obtain ⟨aK, Np, Nq, Nr⟩ := cS
        exact Nn aK Np Nq Nr
       ·exact ⟨i, ⟨ag, ah⟩, fun aK Ns az => cS ⟨aK, Ns, az⟩⟩
    obtain ⟨k, ⟨ch, cu⟩, eF⟩ := this
    have : k ∈ Region.ready .any ops fQ := (Fi k).2 ⟨ch, cu, fun e he => by
     cases bX : (mS ops)[k]? with
     | none => rw [bX] at he; simp at he
     | some l =>
       rw [bX] at he
       have eC := Nl U bX e he
       have := eF e eC
       rw [not_and] at this
       have := this (by omega)
       have Bm : e < fQ.size := by omega
       simp only [Array.getD_eq_getD_getElem?, Array.getElem?_eq_getElem Bm, Option.getD_some] at this ⊢
       simpa using this⟩
    intro e; rw [e] at this; cases this
   have Fj : Region.linearise.go .any ops (fuel + 1) t fQ [] = (match (Region.ready .any ops fQ)[t % (Region.ready .any ops fQ).length]? with
    | some i => Region.linearise.go .any ops fuel (t / (Region.ready .any ops fQ).length) (fQ.setIfInBounds i true) [i]
    | none => []) := rfl
   cases uI : (Region.ready .any ops fQ)[t % (Region.ready .any ops fQ).length]? with
   | none =>
     have ui : Region.ready .any ops fQ = [] := by
      cases a2 : Region.ready .any ops fQ with
      | nil => rfl
      | cons a l =>
        rw [a2] at uI
        have := List.getElem?_eq_none_iff.1 uI
        have ah := Nat.mod_lt t (show 0 < (a :: l).length by simp)
        omega
     rw [Fj, uI]
     refine ⟨by simp, fun i => ?_, fun u i v h => by simp at h⟩
     simp only [List.not_mem_nil, false_iff]
     intro au
     exact hex ⟨i, au⟩ ui
   | some i =>
     have au := (Fi i).1 (List.mem_of_getElem? uI)
     obtain ⟨Bn, Fk, Nt⟩ := au
     rw [Fj, uI]
     simp only
     rw [linearise_go_acc]
     simp only [List.reverse_singleton, List.singleton_append]
     have pf : ∀ aK d, (fQ.setIfInBounds i true).getD aK d = if aK = i then true else fQ.getD aK d := by
      intro aK d
      split
      ·rename_i e; subst e
       simp [Array.getD_eq_getD_getElem?, Array.getElem?_setIfInBounds_self_of_lt (show aK < fQ.size by omega)]
      ·rename_i e
       simp [Array.getD_eq_getD_getElem?, Array.getElem?_setIfInBounds_ne (fun h => e h.symm)]
     obtain ⟨a8, bA, ct⟩ := ih (t / (Region.ready .any ops fQ).length) (fQ.setIfInBounds i true) (by simpa using ab) (by
      have eS : ((List.range ops.size).filter fun aK => !(fQ.setIfInBounds i true).getD aK true) = ((List.range ops.size).filter fun i => !fQ.getD i true).filter fun aK => decide (aK ≠ i) := by
       rw [List.filter_filter]
       apply List.filter_congr
       intro aK _
       rw [pf]
       by_cases e : aK = i <;> simp [e]
      rw [eS]
      have eC : (((List.range ops.size).filter fun i => !fQ.getD i true).filter fun aK => decide (aK ≠ i)).length < ((List.range ops.size).filter fun i => !fQ.getD i true).length := by
       rw [List.length_filter_lt_length_iff_exists]
       exact ⟨i, List.mem_filter.2 ⟨List.mem_range.2 Bn, by rw [Fk]; rfl⟩, by simp⟩
      omega)
     refine ⟨?_, fun aK => ?_, ?_⟩
     ·rw [List.nodup_cons]
      refine ⟨fun hm => ?_, a8⟩
      have := ((bA i).1 hm).2
      rw [pf, if_pos rfl] at this; cases this
     ·rw [List.mem_cons, bA, pf]
      by_cases e : aK = i
      ·subst e; simp [Bn, Fk]
      ·simp [e]
     ·intro u aK v h e he
      cases u with
      | nil =>
        simp only [List.nil_append, List.cons.injEq] at h
        obtain ⟨rfl, rfl⟩ := h
        exact .inl (Nt e he)
      | cons q0 u =>
        simp only [List.cons_append, List.cons.injEq] at h
        obtain ⟨rfl, h⟩ := h
        rcases ct u aK v h e he with bN | bN
        ·rw [pf] at bN
         split at bN
         ·rename_i gZ; subst gZ; exact .inr (by simp)
         ·exact .inl bN
        ·exact .inr (by simp [bN])
theorem Nu {ops : Array Oper} (U : uH (mS ops) = true) (t : Nat) : nq (mS ops) (Region.linearise .any ops t) := by
 have Fl : ∀ i d, i < ops.size → (Array.replicate ops.size false).getD i d = false := by
  intro i d au
  simp [Array.getD_eq_getD_getElem?, au]
 obtain ⟨a8, bA, ct⟩ := Nm U ops.size t (Array.replicate ops.size false) (by simp) (by
  have := List.length_filter_le (fun i => !(Array.replicate ops.size false).getD i true) (List.range ops.size)
  simpa using this)
 have hlen : (mS ops).length = ops.size := by simp [mS]
 refine ⟨a8, fun i => ?_, fun u i v h e he => ?_⟩
 ·rw [hlen]
  rw [show Region.linearise .any ops t = Region.linearise.go .any ops ops.size t (Array.replicate ops.size false) [] from rfl, bA]
  exact ⟨fun h => h.1, fun h => ⟨h, Fl i true h⟩⟩
 ·rcases ct u i v h e he with bN | bN
  ·exfalso
   by_cases Fm : e < ops.size
   ·rw [Fl e false Fm] at bN; cases bN
   ·simp [Array.getD_eq_getD_getElem?, Fm] at bN
  ·exact bN
def R : List (Nat × j) → ao
 | [], _ => .hole
 | (u, d) :: l, t => if t = u then d else R l t
mutual
inductive eH : j → j → Prop
 | refl (d : j) : eH d d
 | gq (sz : Nat) : eH .af (.ai sz [])
 | sw : eH .af (.slice [])
 | any (b : Bool) : eH (.bool b) .eo
 | share (d : j) : d.tree = true → (∀ vs, d ≠ .tuple vs) → eH d d.share
 | agg {ds es : List j} : jJ ds es → eH (.agg ds) (.agg es)
 | aG {d e : j} : eH d e → eH (.aG d) (.aG e)
 | ai {sz : Nat} {ds es : List j} : jJ ds es → eH (.ai sz ds) (.ai sz es)
 | tuple {ds es : List j} : jJ ds es → eH (.tuple ds) (.tuple es)
 | ref {d e : j} : eH d e → eH (.ref d) (.ref e)
 | trans {d e f : j} : eH d e → eH e f → eH d f
inductive jJ : List j → List j → Prop
 | nil : jJ [] []
 | cons {d e : j} {ds es : List j} : eH d e → jJ ds es → jJ (d :: ds) (e :: es)
end
mutual
theorem eH.wd : ∀ {d e : j}, eH d e → e.wd = d.wd
 | _, _, .refl _ => rfl
 | _, _, .gq _ => rfl
 | _, _, .sw => rfl
 | _, _, .any _ => rfl
 | _, _, .share d _ _ => j.wP d
 | _, _, .agg h => by simp only [j.wd]; exact jJ.wd h
 | _, _, .aG _ => rfl
 | _, _, .ai _ => rfl
 | _, _, .tuple h => by simp only [j.wd]; exact jJ.wd h
 | _, _, .ref _ => rfl
 | _, _, .trans h k => (eH.wd k).trans (eH.wd h)
theorem jJ.wd : ∀ {ds es : List j}, jJ ds es → j.dI es = j.dI ds
 | _, _, .nil => rfl
 | _, _, .cons h ab => by simp only [j.dI]; rw [eH.wd h, jJ.wd ab]
end
theorem jJ.len {ds es : List j} (h : jJ ds es) : es.length = ds.length := by
 induction ds generalizing es with
 | nil => cases h; rfl
 | cons d ds ih => cases h with | cons h ab => simp [ih ab]
theorem jJ.all {sz : Nat} {ds es : List j} (h : jJ ds es) (ak : ∀ d ∈ ds, d.wd = sz) : ∀ d ∈ es, d.wd = sz := by
 induction ds generalizing es with
 | nil => cases h; intro d ak; cases ak
 | cons d ds ih =>
   cases h with
   | cons h ab =>
     intro x aw
     rcases List.mem_cons.1 aw with rfl | aw
     ·rw [h.wd]; exact ak d (by simp)
     ·exact ih ab (fun d hm => ak d (by simp [hm])) x aw
section
variable {w0 w : World} {F0 X F : Nat → Prop} {S : Nat → Nat → Prop} {s aC : ao} {aE : Nat → Value}
def Nv (w : World) (F : Nat → Prop) (_d e : j) (cs : List Value) (S : Nat → Prop) : Prop :=
 ∃ hz hA : Nat → Prop, (∀ b, hz b → S b) ∧ (∀ b, hA b → S b) ∧ (∀ b, hA b → ¬ hz b) ∧ ∀ bO, (∀ b, F b ∨ hz b → bO b) → ax w bO e cs hA
mutual
theorem ax.ns : ∀ {d e : j}, eH d e → ∀ {F : Nat → Prop} {cs : List Value} {S : Nat → Prop}, ax w F d cs S → Nv w F d e cs S
 | _, _, .refl _, F, cs, S, h => ⟨fun _ => False, S, fun _ h => h.elim, fun _ h => h, fun _ _ h => h, fun bO bE => ax.mono (fun b U => bE b (.inl U)) _ _ _ _ (fun _ h => h) h⟩
 | .af, _, .gq sz, F, cs, S, h => ⟨fun _ => False, S, fun _ h => h.elim, fun _ h => h, fun _ _ h => h, fun bO bE => by simp only [ax] at h ⊢; exact .inl ⟨trivial, _, h⟩⟩
 | .af, _, .sw, F, cs, S, h => ⟨fun _ => False, S, fun _ h => h.elim, fun _ h => h, fun _ _ h => h, fun bO bE => by simp only [ax] at h ⊢; exact .inl ⟨trivial, none, 0, h, Nat.zero_le _, fun _ => rfl⟩⟩
 | .bool _, _, .any b, F, cs, S, h => ⟨fun _ => False, S, fun _ h => h.elim, fun _ h => h, fun _ _ h => h, fun bO bE => by simp only [ax] at h ⊢; exact ⟨b, h⟩⟩
 | _, _, .share d _ _, F, cs, S, h => ⟨S, fun _ => False, fun _ h => h, fun _ h => h.elim, fun _ h => h.elim, fun bO bE => ax.shared (fun b U => bE b (.inl U)) d cs S (fun b U => bE b (.inr U)) h⟩
 | _, _, .agg i0, F, cs, S, h => by
   rw [ax] at h
   obtain ⟨hz, hA, ag, ah, aM, bd⟩ := ba.ns i0 h
   exact ⟨hz, hA, ag, ah, aM, fun bO bE => by rw [ax]; exact bd bO bE⟩
 | _, _, .aG ak, F, cs, S, h => by
   rw [ax] at h
   obtain ⟨b, cur, ty, fr, aU, ch, cu, eF, dG, ff, ez, iL⟩ := h
   obtain ⟨hz, hA, ag, ah, aM, bd⟩ := ax.ns ak ff
   refine ⟨hz, fun c => c = b ∨ hA c, fun c az => ez c (ag c az), ?_, ?_, fun bO bE => ?_⟩
   ·rintro c (rfl | az)
    ·exact cu
    ·exact ez c (ah c az)
   ·rintro c (rfl | az) bY
    ·exact iL (ag _ bY)
    ·exact aM c az bY
   ·rw [ax]
    exact ⟨b, cur, ty, fr, hA, ch, .inl rfl, eF, dG, bd bO bE, fun c az => .inr az, fun az => iL (ah _ az)⟩
 | .ai sz ds, .ai _ es, .ai i0, F, cs, S, h => by
   rw [ax] at h
   have hl := i0.len
   rcases h with ⟨ag, ah⟩ | ⟨b, cap, cur, ty, fr, aU, ch, cu, eF, dG, ff, ez, iL, dN, lf, lK, Fo⟩
   ·refine ⟨fun _ => False, S, fun _ h => h.elim, fun _ h => h, fun _ _ h => h, fun bO _ => ?_⟩
    rw [ax]
    subst ag
    exact .inl ⟨List.length_eq_zero_iff.1 (by simpa using hl), ah⟩
   ·obtain ⟨hz, hA, ag, ah, aM, bd⟩ := ba.ns i0 lf
    refine ⟨hz, fun c => c = b ∨ hA c, fun c az => lK c (ag c az), ?_, ?_, fun bO bE => ?_⟩
    ·rintro c (rfl | az)
     ·exact cu
     ·exact lK c (ah c az)
    ·rintro c (rfl | az) bY
     ·exact Fo (ag _ bY)
     ·exact aM c az bY
    ·rw [ax]
     refine .inr ⟨b, cap, cur, ty, fr, hA, by rw [hl]; exact ch, .inl rfl, eF, dG, by rw [hl]; exact ff, ez, iL, i0.all dN, by rw [hl]; exact bd bO bE, fun c az => .inr az, fun az => Fo (ah _ az)⟩
 | _, _, .tuple i0, F, cs, S, h => by
   rw [ax] at h
   obtain ⟨hz, hA, ag, ah, aM, bd⟩ := ba.ns i0 h
   exact ⟨hz, hA, ag, ah, aM, fun bO bE => by rw [ax]; exact bd bO bE⟩
 | _, _, .ref ak, F, cs, S, h => by
   rw [ax] at h
   obtain ⟨b, o, ea, ag, ah, aM, bd⟩ := h
   obtain ⟨hz, hA, ch, cu, eF, dG⟩ := ax.ns ak bd
   refine ⟨fun _ => False, S, fun _ h => h.elim, fun _ h => h, fun _ _ h => h, fun bO bE => ?_⟩
   rw [ax]
   exact ⟨b, o, ea, ag, bE _ (.inl ah), aM, ax.mono (fun _ h => h) _ _ _ _ (fun b U => cu b U) (dG bO fun b U => bE b (U.imp id fun h => (ch b h).elim))⟩
 | _, _, .trans ak he, F, cs, S, h => by
   obtain ⟨hz, hA, ag, ah, aM, bd⟩ := ax.ns ak h
   obtain ⟨Bo, xn, ch, cu, eF, dG⟩ := ax.ns he (F := fun b => F b ∨ hz b) (bd _ fun _ h => h)
   refine ⟨fun b => hz b ∨ Bo b, xn, ?_, fun b U => ah b (cu b U), ?_, fun bO bE => dG bO fun b U => ?_⟩
   ·rintro b (h | h)
    ·exact ag b h
    ·exact ah b (ch b h)
   ·rintro b U (h | h)
    ·exact aM b (cu b U) h
    ·exact eF b U h
   ·rcases U with (U | U) | U
    ·exact bE b (.inl U)
    ·exact bE b (.inr (.inl U))
    ·exact bE b (.inr (.inr U))
theorem ba.ns : ∀ {ds es : List j}, jJ ds es → ∀ {F : Nat → Prop} {cs : List Value} {S : Nat → Prop}, ba w F ds cs S →
  ∃ hz hA : Nat → Prop, (∀ b, hz b → S b) ∧ (∀ b, hA b → S b) ∧ (∀ b, hA b → ¬ hz b) ∧ ∀ bO, (∀ b, F b ∨ hz b → bO b) → ba w bO es cs hA
 | _, _, .nil, F, cs, S, h => ⟨fun _ => False, fun _ => False, fun _ h => h.elim, fun _ h => h.elim, fun _ h => h.elim, fun bO bE => by rw [ba] at h ⊢; exact h⟩
 | _, _, .cons ak i0, F, cs, S, h => by
   rw [ba] at h
   obtain ⟨bT, b4, b7, dA, rfl, bA, ct, dZ, e6, hy⟩ := h
   obtain ⟨Nw, Fp, aa, a9, gz, qK⟩ := ax.ns ak bA
   obtain ⟨Bo, xn, ja, hq, hM, b3⟩ := ba.ns i0 ct
   refine ⟨fun b => Nw b ∨ Bo b, fun b => Fp b ∨ xn b, ?_, ?_, ?_, fun bO bE => ?_⟩
   ·rintro b (h | h)
    ·exact dZ b (aa b h)
    ·exact e6 b (ja b h)
   ·rintro b (h | h)
    ·exact dZ b (a9 b h)
    ·exact e6 b (hq b h)
   ·rintro b (h | h) (bN | bN)
    ·exact gz b h bN
    ·exact hy b (a9 b h) (ja b bN)
    ·exact hy b (aa b bN) (hq b h)
    ·exact hM b h bN
   ·rw [ba]
    refine ⟨bT, b4, Fp, xn, rfl, qK bO (fun b U => bE b (U.imp id .inl)), b3 bO (fun b U => bE b (U.imp id .inr)), fun b U => .inl U, fun b U => .inr U, fun b ag ah => hy b (a9 b ag) (hq b ah)⟩
end
theorem eH.xo : ∀ {d e : j}, eH d e → (∀ vs, d ≠ .tuple vs) → ∀ vs, e ≠ .tuple vs
 | _, _, .refl _, h => h
 | _, _, .gq _, _ => fun _ h => by cases h
 | _, _, .sw, _ => fun _ h => by cases h
 | _, _, .any _, _ => fun _ h => by cases h
 | _, _, .share d _ _, h => fun vs he => by cases d <;> first | (cases he; done) | exact h _ rfl
 | _, _, .agg _, _ => fun _ h => by cases h
 | _, _, .aG _, _ => fun _ h => by cases h
 | _, _, .ai _, _ => fun _ h => by cases h
 | _, _, .tuple _, h => fun _ _ => h _ rfl
 | _, _, .ref _, _ => fun _ h => by cases h
 | _, _, .trans h k, bh => eH.xo k (eH.xo h bh)
theorem eH.h9 : ∀ {d e : j} {v : Value}, eH d e → (∀ vs, d ≠ .tuple vs) → dp.h9 d v → dp.h9 e v
 | _, _, _, .refl _, _, h => h
 | _, _, _, .gq _, _, h => h
 | _, _, _, .sw, _, h => h
 | _, _, _, .any _, _, h => h
 | _, _, _, .share d _ bh, _, h => by cases d <;> first | exact h | exact (bh _ rfl).elim
 | _, _, _, .agg _, _, h => h
 | _, _, _, .aG _, _, h => h
 | _, _, _, .ai _, _, h => h
 | _, _, _, .tuple _, bh, _ => (bh _ rfl).elim
 | _, _, _, .ref _, _, h => h
 | _, _, _, .trans h k, bh, ab => eH.h9 k (eH.xo h bh) (eH.h9 h bh ab)
theorem jJ.get : ∀ {ds es : List j}, jJ ds es → ∀ (k : Nat) (e : j), es[k]? = some e → ∃ d, ds[k]? = some d ∧ eH d e
 | _, _, .nil, k, e, h => by simp at h
 | _, _, .cons ak ab, 0, e, h => by simp at h; subst h; exact ⟨_, rfl, ak⟩
 | _, _, .cons ak ab, k + 1, e, h => jJ.get ab k e (by simpa using h)
theorem eH.dT : ∀ {d e : j} {v : Value}, eH d e → dp.dT d v → dp.dT e v
 | _, _, _, .refl _, ab => ab
 | _, _, _, .gq _, ab => ab
 | _, _, _, .sw, ab => ab
 | _, _, _, .any _, ab => ab
 | _, _, _, .share _ _ lP, ab => A3 lP ab
 | _, _, _, .agg _, ab => ab
 | _, _, _, .aG _, ab => ab
 | _, _, _, .ai _, ab => ab
 | _, _, _, .ref _, ab => ab
 | _, _, _, .tuple ak, ab => by
   obtain ⟨arr, ag, ah, aM⟩ := ab
   refine ⟨arr, ag, ah.trans ak.len.symm, fun k e x he aw => ?_⟩
   obtain ⟨d, aB, hw⟩ := ak.get k e he
   obtain ⟨aa, a9, gz⟩ := aM k d x aB aw
   exact ⟨hw.h9 a9 aa, hw.xo a9, gz.trans hw.wd.symm⟩
 | _, _, _, .trans h k, ab => eH.dT k (eH.dT h ab)
theorem eH.tree : ∀ {d e : j}, eH d e → d.tree = true → e.tree = true
 | _, _, .refl _, ak => ak
 | _, _, .gq _, _ => rfl
 | _, _, .sw, _ => rfl
 | _, _, .any _, _ => rfl
 | _, _, .share d _ _, ak => by cases d <;> first | exact ak | rfl
 | _, _, .agg _, _ => rfl
 | _, _, .aG _, _ => rfl
 | _, _, .ai _, _ => rfl
 | _, _, .tuple _, _ => rfl
 | _, _, .ref _, _ => rfl
 | _, _, .trans h k, ak => eH.tree k (eH.tree h ak)
mutual
def j.pz : j → List Nat
 | .h x q => if q.isEmpty then [] else [x]
 | .ay x _ => [x]
 | .U x _ => [x]
 | .fn _ cap => j.pA cap
 | _ => []
def j.pA : List j → List Nat
 | [] => []
 | d :: ds => d.pz ++ j.pA ds
end
def uJ (s aC : ao) (x : Nat) (D : List Nat) : Prop := aC x = s x ∨ aC x = .hole ∨ ((s x).own = true ∧ (aC x).own = true ∧ x ∉ D)
theorem uJ.less {s aC : ao} {x : Nat} {D E : List Nat} (h : uJ s aC x D) (Bp : ∀ u ∈ E, u ∈ D) : uJ s aC x E := by
 rcases h with h | h | ⟨ag, ah, aM⟩
 ·exact .inl h
 ·exact .inr (.inl h)
 ·exact .inr (.inr ⟨ag, ah, fun aw => aM (Bp x aw)⟩)
theorem aL.gp {bO : Nat → Prop} (bE : ∀ b, F b → bO b) : ∀ n, (∀ (d : j) (v : Value) (dW : Nat → Prop), SizeOf.sizeOf d ≤ n → (∀ x ∈ d.ab, uJ s aC x d.pz) → aL w F s aE d v dW → aL w bO aC aE d v dW) ∧
  (∀ (ds : List j) (vs : List Value), SizeOf.sizeOf ds ≤ n → (∀ x ∈ j.dV ds, uJ s aC x (j.pA ds)) → dM w F s aE ds vs → dM w bO aC aE ds vs) := by
 intro n
 induction n with
 | zero =>
   refine ⟨fun d v dW b2 => ?_, fun ds vs b2 => ?_⟩
   ·cases d <;> simp at b2 <;> omega
   ·cases ds <;> simp at b2 <;> omega
 | succ n ih =>
   refine ⟨fun d v dW b2 aB h => ?_, fun ds vs b2 aB h => ?_⟩
   ·cases d with
    | hole => rw [aL]; trivial
    | h x q =>
      rw [aL] at h ⊢
      intro e eS ay
      rcases aB x (by simp [j.ab]) with he | he | ⟨Fq, Nx, uK⟩
      ·rw [he] at eS ⊢; exact h e eS ay
      ·rw [he] at eS
       cases q with
       | nil => simp only [j.sub, Option.some.injEq] at eS; subst eS; simp [j.plain] at ay
       | cons k q => simp [j.sub] at eS
      ·cases q with
       | nil =>
         simp only [j.sub, Option.some.injEq] at eS
         subst eS
         obtain ⟨cU, I, e5, fT, ho⟩ := h (s x) (by simp only [j.sub]) (oL Fq).1
         simp only [c8, Option.some.injEq, Prod.mk.injEq, true_and] at e5
         exact ⟨cp (aE x), none, by simp only [c8], by rw [fT, ← e5.1], ((oL Nx).2.2.2.2.2 _).2 (((oL Fq).2.2.2.2.2 _).1 ho)⟩
       | cons k q => exact (uK (by simp [j.pz])).elim
    | ay x q =>
      rw [aL] at h ⊢
      intro e eS az
      rcases aB x (by simp [j.ab]) with he | he | ⟨_, _, uK⟩
      ·rw [he] at eS az ⊢; exact h e eS az
      ·rw [he] at az
       cases q <;> simp [j.e_] at az
      ·exact (uK (by simp [j.pz])).elim
    | U x k =>
      rw [aL] at h ⊢
      intro ay
      rcases aB x (by simp [j.ab]) with he | he | ⟨_, _, uK⟩
      rotate_left 2
      ·exact (uK (by simp [j.pz])).elim
      ·rw [he] at ay
       obtain ⟨b, cur, e, fr, ag, ah, aM, bd⟩ := h ay
       exact ⟨b, cur, e, fr, ag, bE b ah, aM, bd⟩
      ·rw [he] at ay; simp [j.plain] at ay
    | fn f cap =>
      rw [aL] at h ⊢
      obtain ⟨arr, rfl, az⟩ := h
      exact ⟨arr, rfl, ih.2 _ _ (by simp at b2; omega) (by simpa [j.ab, j.pz] using aB) az⟩
    | _ =>
      have bN := (aL.cJ rfl).1 h
      exact (aL.cJ rfl).2 ⟨bN.1, ax.mono bE _ _ _ _ (fun _ h => h) bN.2⟩
   ·cases ds with
    | nil => rw [dM] at h ⊢; exact h
    | cons d ds =>
      rw [dM] at h ⊢
      obtain ⟨v, i9, rfl, ag, ah⟩ := h
      simp at b2
      simp only [j.dV, List.mem_append] at aB
      exact ⟨v, i9, rfl, ih.1 _ _ _ (by omega) (fun x aw => (aB x (.inl aw)).less fun u hu => by simp [j.pA, hu]) ag, ih.2 _ _ (by omega) (fun x aw => (aB x (.inr aw)).less fun u hu => by simp [j.pA, hu]) ah⟩
def sx (s : ao) (l : List (Nat × j)) : Prop :=
 ∀ p ∈ l, p.2 = s p.1 ∨ ((s p.1).tree = true ∧ eH (s p.1) p.2 ∧ ∀ cl ∈ l, p.1 ∉ cl.2.ab ∨ ((s p.1).own = true ∧ p.2.own = true ∧ p.1 ∉ cl.2.pz))
theorem Fs : ∀ (l : List (Nat × j)) (t : Nat), R l t = .hole ∨ ∃ p ∈ l, p.1 = t ∧ R l t = p.2 := by
 intro l
 induction l with
 | nil => intro t; exact .inl rfl
 | cons p l ih =>
   intro t
   obtain ⟨u, d⟩ := p
   simp only [R]
   split
   ·rename_i e; exact .inr ⟨(u, d), by simp, e.symm, rfl⟩
   ·rcases ih t with h | ⟨p, ay, h⟩
    ·exact .inl h
    ·exact .inr ⟨p, by simp [ay], h⟩
theorem bU.Ny (h : bU w0 F0 X F S s aE w) {l : List (Nat × j)} (hw : sx s l) : ∃ bO aU, bU w0 F0 X bO aU (R l) aE w := by
 have each : ∀ t, ∃ hz hA : Nat → Prop, (∀ b, hz b → S t b) ∧ (∀ b, hA b → S t b) ∧ (∀ b, hA b → ¬ hz b) ∧ ∀ bO, (∀ b, F b ∨ hz b → bO b) → aL w bO (R l) aE (R l t) (aE t) hA := by
  intro t
  rcases Fs l t with e | ⟨p, ay, rfl, e⟩
  ·exact ⟨fun _ => False, fun _ => False, fun _ h => h.elim, fun _ h => h.elim, fun _ h => h.elim, fun bO _ => by rw [e, aL]; trivial⟩
  ·rw [e]
   rcases hw p ay with aB | ⟨a3, lH, _⟩
   ·refine ⟨fun _ => False, S p.1, fun _ h => h.elim, fun _ h => h, fun _ _ h => h, fun bO bE => ?_⟩
    rw [aB]
    refine (aL.gp (fun b U => bE b (.inl U)) (SizeOf.sizeOf (s p.1))).1 _ _ _ (Nat.le_refl _) ?_ (h.dJ p.1)
    intro x aw
    rcases Fs l x with gZ | ⟨cl, dP, rfl, gZ⟩
    ·exact .inr (.inl gZ)
    ·rcases hw cl dP with j8 | ⟨_, _, mD⟩
     ·exact .inl (gZ.trans j8)
     ·rcases mD p ay with mD | ⟨lj, mg, ss⟩
      ·exact (mD (by rw [aB]; exact aw)).elim
      ·exact .inr (.inr ⟨lj, by rw [gZ]; exact mg, by rw [aB] at ss; exact ss⟩)
   ·obtain ⟨a8, bA⟩ := (aL.cJ a3).1 (h.dJ p.1)
    obtain ⟨hz, hA, ch, cu, eF, dG⟩ := ax.ns lH bA
    exact ⟨hz, hA, ch, cu, eF, fun bO bE => (aL.cJ (lH.tree a3)).2 ⟨lH.dT a8, dG bO bE⟩⟩
 have bT := fun t => (each t).choose_spec
 let hz := fun t => (each t).choose
 have b4 := fun t => (bT t).choose_spec
 let hA := fun t => (bT t).choose
 have gm : ∀ t b, hz t b → S t b := fun t => (b4 t).1
 have bP : ∀ t b, hA t b → S t b := fun t => (b4 t).2.1
 have fw : ∀ t b, hA t b → ¬ hz t b := fun t => (b4 t).2.2.1
 have cZ := fun t => (b4 t).2.2.2
 refine ⟨fun b => F b ∨ ∃ t, hz t b, hA, fun b U => .inl (h.hp b U), ?_, ?_, fun t b U => h.eX t b (bP t b U), ?_, fun t u b er U hu => h.fJ t u b er (bP t b U) (bP u b hu), fun t b U => h.dW t b (bP t b U), ?_, h.old, h.size, h.os, h.tape, h.output⟩
 ·rintro b (U | ⟨t, U⟩)
  ·exact h.hJ b U
  ·exact .inr (h.dW t b (gm t b U))
 ·rintro b (U | ⟨t, U⟩)
  ·exact h.fU b U
  ·exact h.eX t b (gm t b U)
 ·rintro t b U (bY | ⟨u, hu⟩)
  ·exact h.ga t b (bP t b U) bY
  ·by_cases e : t = u
   ·subst e; exact fw t b U hu
   ·exact h.fJ t u b e (bP t b U) (gm u b hu)
 ·intro t
  exact cZ t _ (fun b U => U.imp id fun h => ⟨t, h⟩)
end
inductive J where
 | skip
 | ad (ros : List cA) (gp : Option (List Nat))
 | fA (ros : List cA) (nr : List (List Nat)) (gp : Option (List Nat))
 | seq (a b : J)
 | cond (c : aH) (a b : J)
 | block (id : Nat) (b : J)
 | loop (b : J)
 | exit (id : Nat)
 | ret
 | jt (T : (Exit → ao → Prop) → ao → Prop) (b : J)
def bS (n : Fr) : Code → Option J
 | .skip => some .skip
 | .region _ ops false => (n8 n ops ops.toList).map fun r => .ad r none
 | .region _ ops true => if uH (mS ops) = true then (n8 n ops ops.toList).map fun r => .fA r (mS ops) none else none
 | .seq a b => match bS n a, bS n b with
   | some a, some b => some (.seq a b)
   | _, _ => none
 | .cond c a b => match dF c, bS n a, bS n b with
   | some c, some a, some b => some (.cond c a b)
   | _, _, _ => none
 | .block id b => (bS n b).map (.block id)
 | .loop b => (bS n b).map .loop
 | .exit id => some (.exit id)
 | .ret => some .ret
 | _ => none
def J.kA : J → J
 | .ad ros _ => .ad ros none
 | .fA ros c_ _ => .fA ros c_ none
 | .seq a b => .seq a.kA b.kA
 | .cond c a b => .cond c a.kA b.kA
 | .block id b => .block id b.kA
 | .loop b => .loop b.kA
 | .jt T b => .jt T b.kA
 | c => c
def J.strip : J → J
 | .ad ros _ => .ad (ros.map cA.un) none
 | .fA ros c_ _ => .fA (ros.map cA.un) c_ none
 | .seq a b => .seq a.strip b.strip
 | .cond c a b => .cond c a.strip b.strip
 | .block id b => .block id b.strip
 | .loop b => .loop b.strip
 | .jt _ b => b.strip
 | c => c
theorem J.Ft : ∀ c : J, c.kA.strip = c.strip := by
 intro c
 induction c with
 | seq a b ju jv => simp only [J.kA, J.strip, ju, jv]
 | cond c a b ju jv => simp only [J.kA, J.strip, ju, jv]
 | block id b ih => simp only [J.kA, J.strip, ih]
 | loop b ih => simp only [J.kA, J.strip, ih]
 | jt T b ih => simp only [J.kA, J.strip, ih]
 | _ => rfl
def J.bare (H : ((Exit → ao → Prop) → ao → Prop) → J → Prop) : J → Prop
 | .ad _ k => k = none
 | .fA _ _ k => k = none
 | .seq a b => a.bare H ∧ b.bare H
 | .cond _ a b => a.bare H ∧ b.bare H
 | .block _ b => b.bare H
 | .loop b => b.bare H
 | .jt T b => H T b
 | _ => True
def J.n_ (H : ((Exit → ao → Prop) → ao → Prop) → J → Prop) : J → Prop
 | .seq a b => a.n_ H ∧ b.n_ H
 | .cond _ a b => a.n_ H ∧ b.n_ H
 | .block _ b => b.n_ H
 | .loop b => b.n_ H
 | .jt T b => H T b.kA
 | _ => True
theorem J.Fu {H : ((Exit → ao → Prop) → ao → Prop) → J → Prop} : ∀ c : J, c.n_ H → c.kA.bare H := by
 intro c
 induction c with
 | seq a b ju jv => intro h; exact ⟨ju h.1, jv h.2⟩
 | cond c a b ju jv => intro h; exact ⟨ju h.1, jv h.2⟩
 | block id b ih => intro h; exact ih h
 | loop b ih => intro h; exact ih h
 | ad => intro _; rfl
 | fA => intro _; rfl
 | jt T b _ => intro h; exact h
 | _ => intro _; trivial
def J.plain : J → Bool
 | .seq a b => a.plain && b.plain
 | .cond _ a b => a.plain && b.plain
 | .block _ b => b.plain
 | .loop b => b.plain
 | .jt _ _ => false
 | _ => true
theorem J.Nz {H : ((Exit → ao → Prop) → ao → Prop) → J → Prop} : ∀ c : J, c.plain = true → c.n_ H := by
 intro c
 induction c with
 | seq a b ju jv => intro h; simp only [J.plain, Bool.and_eq_true] at h; exact ⟨ju h.1, jv h.2⟩
 | cond c a b ju jv => intro h; simp only [J.plain, Bool.and_eq_true] at h; exact ⟨ju h.1, jv h.2⟩
 | block id b ih => intro h; exact ih h
 | loop b ih => intro h; exact ih h
 | jt T b _ => intro h; cases h
 | _ => intro _; trivial
def andThen (K : ao → Prop) (Q : Exit → ao → Prop) : Exit → ao → Prop
 | .normal, s => K s
 | e, s => Q e s
def sy (id : Nat) (Q : Exit → ao → Prop) : Exit → ao → Prop
 | .exit i, s => if i = id then Q .normal s else Q (.exit i) s
 | e, s => Q e s
def gg (K : ao → Prop) (s : ao) : Prop := K s ∨ ∃ l, sx s l ∧ K (R l)
def uL : Option (List Nat) → (ao → Prop) → ao → Prop
 | none, K, s => gg K s
 | some k, K, s => K (R (k.map fun t => (t, s t)))
def c4 (C : b1) : J → (Exit → ao → Prop) → ao → Prop
 | .skip, Q, s => Q .normal s
 | .ad ros gp, Q, s => kz C s ros (uL gp (Q .normal))
 | .fA ros nr gp, Q, s => ∀ l, nq nr l → ig C ros s l (uL gp (Q .normal))
 | .seq a b, Q, s => c4 C a (andThen (gg (c4 C b Q)) Q) s
 | .cond c a b, Q, s => match aI s c with
   | .bool fl => if fl = true then c4 C a Q s else c4 C b Q s
   | .eo => c4 C a Q s ∧ c4 C b Q s
   | _ => False
 | .block id b, Q, s => c4 C b (sy id Q) s
 | .loop b, Q, s => gg (fun s => ∀ Z : ao → Prop, (∀ aC, c4 C b (andThen (gg Z) Q) aC → Z aC) → Z s) s
 | .exit id, Q, s => Q (.exit id) s
 | .ret, Q, s => Q .ret s
 | .jt T _, Q, s => ∀ gI : Exit → ao → Prop, (∀ e s, Q e s → gI e s) → T gI s
section
variable {C : b1}
theorem xp {s : ao} {o : cA} {K df : ao → Prop} (h : kR C s o K) (aB : ∀ s, K s → df s) : kR C s o df := by
 unfold kR at h ⊢
 split
 ·rename_i bQ; rw [bQ] at h; exact xl h fun av s1 => aB _
 ·rename_i t b bQ
  rw [bQ] at h
  simp only at h
  split
  ·rename_i fl ab
   rw [ab] at h
   simp only at h
   split
   ·rename_i U; rw [if_pos U] at h; exact xl h fun av s1 => aB _
   ·rename_i U; rw [if_neg U] at h; exact aB _ h
  ·rename_i ab; rw [ab] at h; exact aB _ h
  ·rename_i ag ah
   split at h
   ·exact ag _ (by assumption)
   ·exact ah (by assumption)
   ·exact h
theorem Fv {K df : ao → Prop} (aB : ∀ s, K s → df s) : ∀ {ros : List cA} {s : ao}, kz C s ros K → kz C s ros df := by
 intro ros
 induction ros with
 | nil => intro s h; exact aB s h
 | cons o ros ih => intro s h; exact xp h fun s h => ih h
theorem Fw {ros : List cA} {K df : ao → Prop} (aB : ∀ s, K s → df s) : ∀ {l : List Nat} {s : ao}, ig C ros s l K → ig C ros s l df := by
 intro l
 induction l with
 | nil => intro s h; exact aB s h
 | cons i l ih =>
   intro s h
   simp only [ig] at h ⊢
   split
   ·rename_i cr; rw [cr] at h; exact ih h
   ·rename_i o cr; rw [cr] at h; exact xp h fun s h => ih h
theorem sA {K df : ao → Prop} (aB : ∀ s, K s → df s) (s : ao) (h : gg K s) : gg df s :=
 h.imp (aB s) fun ⟨l, ag, ah⟩ => ⟨l, ag, aB _ ah⟩
theorem Fx {gp : Option (List Nat)} {K df : ao → Prop} (aB : ∀ s, K s → df s) (s : ao) (h : uL gp K s) : uL gp df s := by
 cases gp with
 | none => exact sA aB s h
 | some k => exact aB _ h
theorem Fy {gp : Option (List Nat)} {K : ao → Prop} {s : ao} (h : uL gp K s) : gg K s := by
 cases gp with
 | none => exact h
 | some k =>
   refine .inr ⟨_, ?_, h⟩
   intro p ay
   obtain ⟨t, _, rfl⟩ := List.mem_map.1 ay
   exact .inl rfl
theorem Bq {K df : ao → Prop} {Q gI : Exit → ao → Prop} (aB : ∀ s, K s → df s) (c9 : ∀ e s, Q e s → gI e s) : ∀ e s, andThen K Q e s → andThen df gI e s := by
 intro e s h
 cases e with
 | normal => exact aB s h
 | _ => exact c9 _ s h
theorem Fz : ∀ (c : J) {Q gI : Exit → ao → Prop} {s : ao}, (∀ e s, Q e s → gI e s) → c4 C c Q s → c4 C c gI s := by
 intro c
 induction c with
 | skip => intro Q gI s c9 h; exact c9 _ _ h
 | ad ros gp => intro Q gI s c9 h; exact Fv (Fx (c9 _)) h
 | fA ros nr gp => intro Q gI s c9 h l hl; exact Fw (Fx (c9 _)) (h l hl)
 | seq a b ju jv =>
   intro Q gI s c9 h
   exact ju (Bq (fun s h => sA (fun _ h => jv c9 h) s h) c9) h
 | cond c a b ju jv =>
   intro Q gI s c9 h
   simp only [c4] at h ⊢
   split
   ·rename_i fl U
    rw [U] at h
    simp only at h
    split
    ·rename_i e; rw [if_pos e] at h; exact ju c9 h
    ·rename_i e; rw [if_neg e] at h; exact jv c9 h
   ·rename_i U; rw [U] at h; exact ⟨ju c9 h.1, jv c9 h.2⟩
   ·rename_i ag ah
    split at h
    ·exact ag _ (by assumption)
    ·exact ah (by assumption)
    ·exact h
 | block id b ih =>
   intro Q gI s c9 h
   refine ih ?_ h
   intro e s h
   cases e with
   | exit i =>
     simp only [sy] at h ⊢
     split
     ·rename_i e; rw [if_pos e] at h; exact c9 _ _ h
     ·rename_i e; rw [if_neg e] at h; exact c9 _ _ h
   | _ => exact c9 _ _ h
 | loop b ih =>
   intro Q gI s c9 h
   refine sA (fun s h Z sB => ?_) s h
   exact h Z fun aC gJ => sB aC (ih (Bq (fun _ h => h) c9) gJ)
 | exit id => intro Q gI s c9 h; exact c9 _ _ h
 | ret => intro Q gI s c9 h; exact c9 _ _ h
 | jt T b _ => intro Q gI s c9 h fB ah; exact h fB fun e s he => ah e s (c9 e s he)
theorem FA : ∀ (c : J) {Q : Exit → ao → Prop} {s : ao}, c4 C c Q s → c4 C c.kA Q s := by
 intro c
 induction c with
 | ad ros gp => intro Q s h; exact Fv (fun s h => Fy h) h
 | fA ros c_ gp => intro Q s h l hl; exact Fw (fun s h => Fy h) (h l hl)
 | seq a b ju jv => intro Q s h; exact ju (Fz a (Bq (fun s h => sA (fun _ h => jv h) s h) (fun _ _ h => h)) h)
 | cond c a b ju jv =>
   intro Q s h
   simp only [J.kA, c4] at h ⊢
   split
   ·rename_i fl U
    rw [U] at h
    simp only at h
    split
    ·rename_i e; rw [if_pos e] at h; exact ju h
    ·rename_i e; rw [if_neg e] at h; exact jv h
   ·rename_i U; rw [U] at h; exact ⟨ju h.1, jv h.2⟩
   ·rename_i ag ah
    split at h
    ·exact ag _ (by assumption)
    ·exact ah (by assumption)
    ·exact h
 | block id b ih => intro Q s h; exact ih h
 | loop b ih =>
   intro Q s h
   refine sA (fun s h Z sB => ?_) s h
   exact h Z fun aC gJ => sB aC (ih gJ)
 | jt T b _ => intro Q s h; exact h
 | _ => intro Q s h; exact h
variable {w0 w : World} {F0 X : Nat → Prop} {n : Fr} {ρ : Nat → Value} {s : ao} {a : Act}
def sC (w0 : World) (F0 X : Nat → Prop) (n : Fr) (ρ : Nat → Value) (Q : Exit → ao → Prop) : Exit → Act → World → Prop := fun e a w => ∃ s, Q e s ∧ Rel w0 F0 X n ρ s a w
theorem Rel.gg {K : ao → Prop} {s : ao} {a : Act} {w : World} (a2 : Rel w0 F0 X n ρ s a w) (h : gg K s) : ∃ aC, K aC ∧ Rel w0 F0 X n ρ aC a w := by
 rcases h with h | ⟨l, ag, ah⟩
 ·exact ⟨s, h, a2⟩
 ·obtain ⟨a8, bA, ct, F, S, dZ⟩ := a2
  obtain ⟨bO, aU, e6⟩ := dZ.Ny ag
  exact ⟨R l, ah, a8, bA, ct, bO, aU, e6⟩
theorem J.NA {c : J} (h : c.strip = .skip) : c = .skip ∨ ∃ T b, c = .jt T b := by cases c <;> first | exact .inl rfl | exact .inr ⟨_, _, rfl⟩ | cases h
theorem J.NB {c : J} (h : c.strip = .ret) : c = .ret ∨ ∃ T b, c = .jt T b := by cases c <;> first | exact .inl rfl | exact .inr ⟨_, _, rfl⟩ | cases h
theorem J.NC {c : J} {i : Nat} (h : c.strip = .exit i) : c = .exit i ∨ ∃ T b, c = .jt T b := by cases c <;> first | exact .inl h | exact .inr ⟨_, _, rfl⟩ | cases h
theorem J.ND {c : J} {r : List cA} {k : Option (List Nat)} (h : c.strip = .ad r k) : (∃ ros dU, c = .ad ros dU ∧ ros.map cA.un = r) ∨ ∃ T b, c = .jt T b := by
 cases c <;> first | (cases h; exact .inl ⟨_, _, rfl, rfl⟩) | exact .inr ⟨_, _, rfl⟩ | cases h
theorem J.NF {c : J} {r : List cA} {c_ : List (List Nat)} {k : Option (List Nat)} (h : c.strip = .fA r c_ k) : (∃ ros FB dU, c = .fA ros FB dU ∧ ros.map cA.un = r ∧ FB = c_) ∨ ∃ T b, c = .jt T b := by
 cases c <;> first | (cases h; exact .inl ⟨_, _, _, rfl, rfl, rfl⟩) | exact .inr ⟨_, _, rfl⟩ | cases h
theorem J.NG {c x y : J} (h : c.strip = .seq x y) : (∃ a b, c = .seq a b ∧ a.strip = x ∧ b.strip = y) ∨ ∃ T b, c = .jt T b := by
 cases c <;> first | (cases h; exact .inl ⟨_, _, rfl, rfl, rfl⟩) | exact .inr ⟨_, _, rfl⟩ | cases h
theorem J.NH {c x y : J} {o : aH} (h : c.strip = .cond o x y) : (∃ mf a b, c = .cond mf a b ∧ mf = o ∧ a.strip = x ∧ b.strip = y) ∨ ∃ T b, c = .jt T b := by
 cases c <;> first | (cases h; exact .inl ⟨_, _, _, rfl, rfl, rfl, rfl⟩) | exact .inr ⟨_, _, rfl⟩ | cases h
theorem J.NI {c x : J} {i : Nat} (h : c.strip = .block i x) : (∃ a, c = .block i a ∧ a.strip = x) ∨ ∃ T b, c = .jt T b := by
 cases c <;> first | (cases h; exact .inl ⟨_, rfl, rfl⟩) | exact .inr ⟨_, _, rfl⟩ | cases h
theorem J.NJ {c x : J} (h : c.strip = .loop x) : (∃ a, c = .loop a ∧ a.strip = x) ∨ ∃ T b, c = .jt T b := by
 cases c <;> first | (cases h; exact .inl ⟨_, rfl, rfl⟩) | exact .inr ⟨_, _, rfl⟩ | cases h
theorem FC (bt : C.eO) {H : ((Exit → ao → Prop) → ao → Prop) → J → Prop}
  (ln : ∀ (c : Code) (T : (Exit → ao → Prop) → ao → Prop) (b : J) (Q : Exit → ao → Prop) (s : ao) (a : Act) (w : World), H T b → bS n c = some b.strip → T Q s → Rel w0 F0 X n ρ s a w → c.wp C.P (sC w0 F0 X n ρ Q) a w) :
  ∀ (c : Code) {fF : J} {Q : Exit → ao → Prop} {s : ao} {a : Act} {w : World}, bS n c = some fF.strip → fF.bare H → c4 C fF Q s → Rel w0 F0 X n ρ s a w → c.wp C.P (sC w0 F0 X n ρ Q) a w := by
 intro c
 induction c with
 | skip =>
   intro fF Q s a w ab g1 h a2
   have kb := ab
   simp only [bS, Option.some.injEq] at ab
   rcases J.NA ab.symm with rfl | ⟨T, b, rfl⟩
   ·exact wp_skip ⟨s, h, a2⟩
   ·exact ln _ T b Q s a w g1 (by simpa only [J.strip] using kb) (h Q fun _ _ h => h) a2
 | region id ops draw =>
   intro fF Q s a w ab g1 h a2
   have kb := ab
   cases draw with
   | false =>
     simp only [bS, Option.map_eq_some_iff] at ab
     obtain ⟨NK, uM, ab⟩ := ab
     rcases J.ND ab.symm with ⟨ros, k, rfl, rfl⟩ | ⟨T, b, rfl⟩
     rotate_left
     ·exact ln _ T b Q s a w g1 (by simpa only [J.strip] using kb) (h Q fun _ _ h => h) a2
     cases g1
     exact Nk bt uM (fun aC cN aS aB ek => ek.gg aB) h a2
   | true =>
     simp only [bS] at ab
     split at ab
     ·rename_i U
      simp only [Option.map_eq_some_iff] at ab
      obtain ⟨NK, uM, ab⟩ := ab
      rcases J.NF ab.symm with ⟨ros, c_, k, rfl, rfl, rfl⟩ | ⟨T, b, rfl⟩
      rotate_left
      ·exact ln _ T b Q s a w g1 (by simpa only [J.strip] using kb) (h Q fun _ _ h => h) a2
      cases g1
      refine wp_region_draw fun t => ?_
      rw [show Region.schedule (C.P.follows .mixedOrders) ops t = Region.linearise .any ops t by simp [Region.schedule, bt.mixed]]
      exact Fh bt uM (fun aC cN aS aB ek => ek.gg aB) _ s a _ (h _ (Nu U t)) (a2.drawn _)
     ·cases ab
 | seq x y NL xq =>
   intro fF Q s a w ab g1 h a2
   have kb := ab
   simp only [bS] at ab
   split at ab
   ·rename_i uq NM aw bL
    simp only [Option.some.injEq] at ab
    rcases J.NG ab.symm with ⟨cO, j5, rfl, rfl, rfl⟩ | ⟨T, b, rfl⟩
    rotate_left
    ·exact ln _ T b Q s a w g1 (by simpa only [J.strip] using kb) (h Q fun _ _ h => h) a2
    refine wp_seq (wp_mono (NL aw g1.1 h a2) ?_)
    rintro e cN aS ⟨aC, bN, ek⟩
    cases e with
    | normal =>
      obtain ⟨aC, bN, ek⟩ := ek.gg bN
      exact xq bL g1.2 bN ek
    | _ => exact ⟨aC, bN, ek⟩
   ·cases ab
 | cond x y z xq FD =>
   intro fF Q s a w ab g1 h a2
   have kb := ab
   simp only [bS] at ab
   split at ab
   ·rename_i uq NM sz aw bL b2
    simp only [Option.some.injEq] at ab
    rcases J.NH ab.symm with ⟨cO, j5, pe, rfl, rfl, rfl, rfl⟩ | ⟨T, b, rfl⟩
    rotate_left
    ·exact ln _ T b Q s a w g1 (by simpa only [J.strip] using kb) (h Q fun _ _ h => h) a2
    have ek := a2
    obtain ⟨ak, ef, bY, F, S, oM⟩ := ek
    have aQ := (fm (a := a) oM (fun _ => rfl) aw).2
    simp only [c4] at h
    split at h
    ·rename_i fl U
     rw [U] at aQ
     have := qG aQ
     refine wp_cond this ?_
     split
     ·rename_i e; rw [if_pos e] at h; exact xq bL g1.1 h a2
     ·rename_i e; rw [if_neg e] at h; exact FD b2 g1.2 h a2
    ·rename_i U
     rw [U] at aQ
     obtain ⟨fl, k7⟩ := D3 aQ
     refine wp_cond k7 ?_
     split
     ·exact xq bL g1.1 h.1 a2
     ·exact FD b2 g1.2 h.2 a2
    ·exact h.elim
   ·cases ab
 | block id b ih =>
   intro fF Q s a w ab g1 h a2
   have kb := ab
   simp only [bS, Option.map_eq_some_iff] at ab
   obtain ⟨w_, U, ab⟩ := ab
   rcases J.NI ab.symm with ⟨fl, rfl, rfl⟩ | ⟨T, b, rfl⟩
   rotate_left
   ·exact ln _ T b Q s a w g1 (by simpa only [J.strip] using kb) (h Q fun _ _ h => h) a2
   refine wp_block (wp_mono (ih U g1 h a2) ?_)
   rintro e cN aS ⟨aC, bN, ek⟩
   cases e with
   | exit i =>
     simp only [sy] at bN
     simp only [Exit.inBlock]
     split
     ·rename_i e; rw [if_pos e] at bN; exact ⟨aC, bN, ek⟩
     ·rename_i e; rw [if_neg e] at bN; exact ⟨aC, bN, ek⟩
   | _ => exact ⟨aC, bN, ek⟩
 | loop b ih =>
   intro fF Q s a w ab g1 h a2
   have kb := ab
   simp only [bS, Option.map_eq_some_iff] at ab
   obtain ⟨w_, U, ab⟩ := ab
   rcases J.NJ ab.symm with ⟨fl, rfl, rfl⟩ | ⟨T, b, rfl⟩
   rotate_left
   ·exact ln _ T b Q s a w g1 (by simpa only [J.strip] using kb) (h Q fun _ _ h => h) a2
   obtain ⟨s, h, a2⟩ := a2.gg h
   have key := h (fun s => ∀ a w, Rel w0 F0 X n ρ s a w → ∀ (f : Frame) (k : List Item) (cs : List Frame), ∃ e cN aS, sC w0 F0 X n ρ Q e cN aS ∧ Arrives C.P (lone (f.at a (.code b :: .inLoop b :: k)) cs w) f k cs e cN aS) ?_
   ·intro f k cs
    obtain ⟨e, cN, aS, c9, pB⟩ := key a w a2 f k cs
    exact ⟨e, cN, aS, c9, .of_steps (.one step_loop) pB⟩
   ·intro aC gJ a w a2 f k cs
    obtain ⟨e, a₁, w₁, ⟨s1, c9, pC⟩, pB⟩ := ih U g1 gJ a2 f (.inLoop b :: k) cs
    cases e with
    | normal =>
      simp only [andThen] at c9
      obtain ⟨s1, c9, pC⟩ := pC.gg c9
      obtain ⟨e₂, a₂, w₂, hq₂, harr₂⟩ := c9 a₁ w₁ pC f k cs
      exact ⟨e₂, a₂, w₂, hq₂, .of_steps (Steps.trans pB (.one step_inLoop)) harr₂⟩
    | exit id => exact ⟨_, a₁, w₁, ⟨s1, c9, pC⟩, .pass (x := .inLoop b) rfl (fun _ _ => .inl (by simp)) pB⟩
    | goto l => exact ⟨_, a₁, w₁, ⟨s1, c9, pC⟩, .pass (x := .inLoop b) rfl (fun _ _ => .inl (by simp)) pB⟩
    | ret => exact ⟨_, a₁, w₁, ⟨s1, c9, pC⟩, .pass (x := .inLoop b) rfl (fun _ _ => .inl (by simp)) pB⟩
    | panic ajr => exact ⟨_, a₁, w₁, ⟨s1, c9, pC⟩, .pass (x := .inLoop b) rfl (fun _ _ => .inl (by simp)) pB⟩
    | outgrown => exact ⟨_, a₁, w₁, ⟨s1, c9, pC⟩, .pass (x := .inLoop b) rfl (fun _ _ => .inl (by simp)) pB⟩
 | exit id =>
   intro fF Q s a w ab g1 h a2
   have kb := ab
   simp only [bS, Option.some.injEq] at ab
   rcases J.NC ab.symm with rfl | ⟨T, b, rfl⟩
   ·exact wp_exit ⟨s, h, a2⟩
   ·exact ln _ T b Q s a w g1 (by simpa only [J.strip] using kb) (h Q fun _ _ h => h) a2
 | ret =>
   intro fF Q s a w ab g1 h a2
   have kb := ab
   simp only [bS, Option.some.injEq] at ab
   rcases J.NB ab.symm with rfl | ⟨T, b, rfl⟩
   ·exact wp_ret ⟨s, h, a2⟩
   ·exact ln _ T b Q s a w g1 (by simpa only [J.strip] using kb) (h Q fun _ _ h => h) a2
 | _ => intro fF Q s a w ab; simp [bS] at ab
theorem NN (bt : C.eO) (c : Code) {fF : J} {Q : Exit → ao → Prop} {s : ao} {a : Act} {w : World} (ab : bS n c = some fF.strip) (U : fF.bare (fun _ _ => False)) (h : c4 C fF Q s) (a2 : Rel w0 F0 X n ρ s a w) : c.wp C.P (sC w0 F0 X n ρ Q) a w :=
 FC bt (fun _ _ _ _ _ _ _ bY => bY.elim) c ab U h a2
end
def jw : ResultVar → Nat
 | .tmp t => t
 | .cell a _ => a
def pD (C : b1) (s : ao) : ResultVar → Option j
 | .tmp t => if (s t).tree = true then (match s t with | .tuple _ => none | d => some d) else none
 | .cell a T => match s a with
   | .aG d => if fits C T d = true ∧ d.tree = true then some d else none
   | _ => none
def Ends (C : b1) (fx : List Nat) (g2 : List ResultVar) (r : j) (outs : List j) (s : ao) : Prop :=
 ∃ ds, g2.map (pD C s) = ds.map some ∧ r = (match ds with | [d] => d | ds => .tuple ds) ∧ (g2.map jw).Nodup ∧
   ∀ (i : Nat) (o : j), outs[i]? = some o → o = .hole ∨ (o = s i ∧ o.fV = true ∧ i ∈ fx ∧ i ∉ g2.map jw)
section
variable {C : b1} {w0 w : World} {F0 X F : Nat → Prop} {S : Nat → Nat → Prop} {s : ao} {tmps : Array Value}
theorem FE {d : j} {x : Value} (ak : ∀ vs, d ≠ .tuple vs) (h : dT d x) : cp x = hW x ∧ h9 d x := by
 have : h9 d x := by cases d <;> first | exact h | exact (ak _ rfl).elim
 refine ⟨?_, this⟩
 cases d <;> first
  | (obtain ⟨a, rfl⟩ := this; rfl)
  | (simp only [h9] at this
     rw [gx this]
     cases x <;> first | rfl | (simp [Value.gw] at this))
def uN (tmps : Array Value) : ResultVar → Sem Value
 | .tmp t => pure (tmps.getD t undef)
 | .cell a t => do loadVar t (← asAddr (tmps.getD a undef))
theorem NO (bt : C.eO) (h : bU w0 F0 X F S s (fun t => tmps.getD t undef) w) {v : ResultVar} {d : j} (aQ : pD C s v = some d) :
  ∃ x, (uN tmps v).run C.P w = .ok x w ∧ d.tree = true ∧ (∀ vs, d ≠ .tuple vs) ∧ dT d x ∧ ax w F d (cp x) (S (jw v)) := by
 cases v with
 | tmp t =>
   simp only [pD] at aQ
   split at aQ
   ·rename_i a3
    have lP : (∀ vs, s t ≠ .tuple vs) ∧ d = s t := by
     cases ab : s t <;> rw [ab] at aQ <;> simp only at aQ <;> first
      | (cases aQ; done)
      | (simp only [Option.some.injEq] at aQ; exact ⟨(fun _ h => by cases h), aQ.symm⟩)
    obtain ⟨lP, rfl⟩ := lP
    obtain ⟨a8, bA⟩ := (aL.cJ a3).1 (h.dJ t)
    exact ⟨_, by simp [uN], a3, lP, a8, bA⟩
   ·cases aQ
 | cell a T =>
   simp only [pD] at aQ
   split at aQ
   ·rename_i e ab
    split at aQ
    ·rename_i NP
     obtain ⟨hx, NQ⟩ := NP
     simp only [Option.some.injEq] at aQ; subst aQ
     have iN := h.dJ a
     rw [ab] at iN
     obtain ⟨a8, bA⟩ := (aL.cJ (d := .aG e) rfl).1 iN
     rw [gx a8, ax] at bA
     obtain ⟨b, cur, ty, fr, aU, ch, cu, eF, dG, ff, ez, iL⟩ := bA
     simp only [List.cons.injEq, and_true] at ch
     have jm : hj w b 0 cur.toList := by
      have := r6 eF cur.size
      rwa [List.take_of_length_le (by simp)] at this
     obtain ⟨x, eE, fN, kL⟩ := w2 (C := C) bt jm ff hx
     refine ⟨x, ?_, NQ, ?_, kL, ?_⟩
     ·simp only [uN]
      rw [ch]
      simpa [asAddr] using eE
     ·intro vs gZ; subst gZ
      unfold fits at hx
      split at hx <;> simp_all
     ·rw [fN]; exact ax.mono (fun _ h => h) _ _ _ _ ez ff
    ·cases aQ
   ·cases aQ
theorem NR (bt : C.eO) (h : bU w0 F0 X F S s (fun t => tmps.getD t undef) w) : ∀ (g2 : List ResultVar) (ds : List j), g2.map (pD C s) = ds.map some → (g2.map jw).Nodup →
  ∃ xs, (g2.mapM (uN tmps)).run C.P w = .ok xs w ∧ xs.length = ds.length ∧ ba w F ds (xs.flatMap hW) (fun b => ∃ t ∈ g2.map jw, S t b) ∧
    ∀ (k : Nat) (d : j) (x : Value), ds[k]? = some d → xs[k]? = some x → dT d x ∧ (∀ vs, d ≠ .tuple vs) ∧ (hW x).length = d.wd ∧ cp x = hW x ∧ d.tree = true := by
 intro g2
 induction g2 with
 | nil =>
   intro ds he _
   have : ds = [] := by simpa using he.symm
   subst this
   exact ⟨[], by simp, rfl, by simp only [List.flatMap_nil]; rw [ba], fun k d x ak => by simp at ak⟩
 | cons v g2 ih =>
   intro ds he sD
   cases ds with
   | nil => simp at he
   | cons d ds =>
     simp only [List.map_cons, List.cons.injEq] at he
     simp only [List.map_cons, List.nodup_cons] at sD
     obtain ⟨x, eE, rt, fN, kL, k_⟩ := NO bt h he.1
     obtain ⟨xs, gm, bP, fw, cZ⟩ := ih ds he.2 sD.2
     obtain ⟨a1, bg⟩ := FE fN kL
     refine ⟨x :: xs, by simp [List.mapM_cons, eE, gm], by simp [bP], ?_, ?_⟩
     ·simp only [List.flatMap_cons]
      rw [ba]
      rw [a1] at k_
      refine ⟨hW x, xs.flatMap hW, S (jw v), fun b => ∃ t ∈ g2.map jw, S t b, rfl, k_, fw, fun b U => ⟨jw v, by simp, U⟩, ?_, ?_⟩
      ·rintro b ⟨t, a3, U⟩; exact ⟨t, by simp [a3], U⟩
      ·rintro b U ⟨t, a3, k7⟩
       have : t ≠ jw v := fun e => sD.1 (e ▸ a3)
       exact h.fJ t (jw v) b this k7 U
     ·intro k bw cO ak aw
      cases k with
      | zero =>
        simp at ak aw; subst ak aw
        refine ⟨kL, fN, ?_, a1, rt⟩
        rw [← a1]; exact ax.length _ _ _ k_
      | succ k => exact cZ k bw cO (by simpa using ak) (by simpa using aw)
theorem FF (bt : C.eO) {f : FuncId} {fn : Func} {c : Code} {fx : List Nat} {as outs : List j} {r : j} (bY : C.P.funcs[f]? = some fn) (U : fn.body = some c)
  (lo : (fn.name == "runtime.NumGoroutine") = false) (bh : as.length ≤ fn.ntmps)
  {w : World} {F X : Nat → Prop} {S : Nat → Nat → Prop} {vs : List Value} (hl : vs.length = as.length) (a2 : bU w F X F S (fP as) (ha vs) w)
  (NS : ∀ a, Rel w F X ⟨fn.ntmps, fx⟩ (ha vs) (fP as) a w → (∀ t, a.tmps.getD t undef = ha vs t) → c.wp C.P (sC w F X ⟨fn.ntmps, fx⟩ (ha vs) (fun e s => (e = .normal ∨ e = .ret) ∧ gg (Ends C fx fn.results.toList r outs) s)) a w) :
  nk C.P f vs.toArray w fun v aS => ∃ bO aU, bU w F X bO aU (fP (r :: outs)) (ha (v :: vs)) aS := by
 have lO : (vs.toArray ++ Array.replicate (fn.ntmps - vs.toArray.size) undef).size = fn.ntmps := by simp; omega
 have ej : (fun t => (vs.toArray ++ Array.replicate (fn.ntmps - vs.toArray.size) undef).getD t undef) = ha vs := by
  funext t
  simp only [ha, Array.getD_eq_getD_getElem?, List.getD_eq_getElem?_getD]
  by_cases a3 : t < vs.length
  ·rw [Array.getElem?_append_left (by simpa using a3)]; simp
  ·rw [Array.getElem?_append_right (by simpa using a3)]
   rw [List.getElem?_eq_none (by omega)]
   simp only [Array.getElem?_replicate]
   split <;> rfl
 have oM : Rel w F X ⟨fn.ntmps, fx⟩ (ha vs) (fP as) { tmps := vs.toArray ++ Array.replicate (fn.ntmps - vs.toArray.size) undef, defers := [] } w :=
  ⟨rfl, lO, fun i _ => congrFun ej i, F, S, by rw [ej]; exact a2⟩
 have Br : fn.name ≠ "runtime.NumGoroutine" := by simpa using lo
 refine .inl ⟨by simp [callFunc, bY, Br, U], calls_of_wp bY U (wp_mono (NS _ oM (congrFun ej)) ?_)⟩
 rintro e cN aS ⟨aC, ⟨he, NT⟩, NU⟩
 obtain ⟨aC, ⟨ds, i0, FG, sD, tO⟩, ak, ef, hb, bO, aU, ek⟩ := NU.gg NT
 obtain ⟨xs, gm, bP, fw, cZ⟩ := NR bt ek _ ds i0 sD
 have NV : (results fn cN.tmps) = (do let vs ← fn.results.mapM (uN cN.tmps); pure (if h : vs.size = 1 then vs[0] else .tuple vs)) := by
  unfold results
  congr 1
 have qE : (results fn cN.tmps).run C.P aS = .ok (if h : xs.toArray.size = 1 then xs.toArray[0] else .tuple xs.toArray) aS := by
  rw [NV, Array.mapM_eq_mapM_toList]
  simp [gm]
 have pE : (r.tree = true ∧ dT r (if h : xs.toArray.size = 1 then xs.toArray[0] else .tuple xs.toArray) ∧
   ax aS bO r (cp (if h : xs.toArray.size = 1 then xs.toArray[0] else .tuple xs.toArray)) (fun b => ∃ t ∈ fn.results.toList.map jw, aU t b)) := by
  by_cases ag : ∃ d, ds = [d]
  ·obtain ⟨d, rfl⟩ := ag
   obtain ⟨x, rfl⟩ : ∃ x, xs = [x] := by
    cases xs with
    | nil => simp at bP
    | cons x xs => cases xs with
      | nil => exact ⟨x, rfl⟩
      | cons y cz => simp at bP
   obtain ⟨ch, cu, eF, dG, ff⟩ := cZ 0 d x rfl rfl
   have NW : d = r := FG.symm
   subst NW
   simp only [List.flatMap_cons, List.flatMap_nil, List.append_nil] at fw
   rw [ba] at fw
   obtain ⟨bT, b4, b7, dA, a1, bg, bf, cn, c3, b_⟩ := fw
   rw [ba] at bf; subst bf
   simp only [List.append_nil] at a1; subst a1
   have aw : (if h : ([x] : List Value).toArray.size = 1 then ([x] : List Value).toArray[0] else .tuple ([x] : List Value).toArray) = x := by simp
   rw [aw, dG]
   exact ⟨ff, ch, ax.mono (fun _ h => h) _ _ _ _ cn bg⟩
  ·have NX : r = .tuple ds := by
    rw [FG]
    cases ds with
    | nil => rfl
    | cons d ds => cases ds with
      | nil => exact (ag ⟨d, rfl⟩).elim
      | cons e ds => rfl
   have aw : (if h : xs.toArray.size = 1 then xs.toArray[0] else Value.tuple xs.toArray) = .tuple xs.toArray := by
    rw [dif_neg]
    intro ef
    have : ds.length = 1 := by rw [← bP]; simpa using ef
    obtain ⟨d, ak⟩ := List.length_eq_one_iff.1 this
    exact ag ⟨d, ak⟩
   rw [aw, NX]
   refine ⟨rfl, ⟨xs.toArray, rfl, by simpa using bP, fun k d x ak aw => ?_⟩, ?_⟩
   ·obtain ⟨ch, cu, eF, dG, _⟩ := cZ k d x ak (by simpa using aw)
    exact ⟨(FE cu ch).2, cu, eF⟩
   ·rw [ax]
    simpa [cp] using fw
 have post : ∀ (v : Value), (r.tree = true ∧ dT r v ∧ ax aS bO r (cp v) (fun b => ∃ t ∈ fn.results.toList.map jw, aU t b)) → ∃ su b7, bU w F X su b7 (fP (r :: outs)) (ha (v :: vs)) aS := by
  rintro v ⟨v1, v2, NY⟩
  have Bs : ∀ i, (outs.getD i .hole).fV = true → outs.getD i .hole = aC i ∧ i ∈ fx ∧ i ∉ fn.results.toList.map jw := by
   intro i au
   cases cr : outs[i]? with
   | none => simp [List.getD, cr, j.fV] at au
   | some o =>
     have e : outs.getD i .hole = o := by simp [List.getD, cr]
     rw [e] at au ⊢
     rcases tO i o cr with h | h
     ·subst h; simp [j.fV] at au
     ·exact ⟨h.1, h.2.2⟩
  refine ⟨bO, fun t b => match t with | 0 => ∃ t ∈ fn.results.toList.map jw, aU t b | i + 1 => (outs.getD i .hole).fV = true ∧ aU i b, ek.hp, ek.hJ, ek.fU, ?_, ?_, ?_, ?_, ?_, ek.old, ek.size, ek.os, ek.tape, ek.output⟩
  ·intro t b U
   cases t with
   | zero => obtain ⟨t, _, U⟩ := U; exact ek.eX t b U
   | succ i => exact ek.eX i b U.2
  ·intro t b U
   cases t with
   | zero => obtain ⟨t, _, U⟩ := U; exact ek.ga t b U
   | succ i => exact ek.ga i b U.2
  ·intro t u b er U hu
   cases t with
   | zero =>
     obtain ⟨t, a3, U⟩ := U
     cases u with
     | zero => exact er rfl
     | succ aK =>
       refine ek.fJ t aK b (fun e => ?_) U hu.2
       subst e; exact (Bs t hu.1).2.2 a3
   | succ i =>
     cases u with
     | zero =>
       obtain ⟨t, a3, hu⟩ := hu
       refine ek.fJ t i b (fun e => ?_) hu U.2
       subst e; exact (Bs t U.1).2.2 a3
     | succ aK => exact ek.fJ i aK b (by omega) U.2 hu.2
  ·intro t b U
   cases t with
   | zero => obtain ⟨t, _, U⟩ := U; exact ek.dW t b U
   | succ i => exact ek.dW i b U.2
  ·intro t
   cases t with
   | zero => exact (aL.cJ v1).2 ⟨v2, NY⟩
   | succ i =>
     show aL aS bO (fP (r :: outs)) (ha (v :: vs)) (outs.getD i .hole) (vs.getD i undef) (fun b => (outs.getD i .hole).fV = true ∧ aU i b)
     cases au : (outs.getD i .hole).fV with
     | false =>
       have : outs.getD i .hole = .hole := by
        cases cr : outs[i]? with
        | none => simp [List.getD, cr]
        | some o =>
          have e : outs.getD i .hole = o := by simp [List.getD, cr]
          rw [e] at au ⊢
          rcases tO i o cr with h | h
          ·exact h
          ·rw [h.2.1] at au; cases au
       rw [this, aL]; trivial
     | true =>
       obtain ⟨lj, mg, ss⟩ := Bs i au
       have a3 := (pr au).2.1
       have iN := ek.dJ i
       rw [← lj] at iN
       obtain ⟨a8, bA⟩ := (aL.cJ a3).1 iN
       have aQ : cN.tmps.getD i undef = vs.getD i undef := hb i mg
       rw [aQ] at a8 bA
       exact (aL.cJ a3).2 ⟨a8, ax.mono (fun _ h => h) _ _ _ _ (fun b U => ⟨rfl, U⟩) bA⟩
 rcases he with rfl | rfl
 ·exact ⟨ak, _, qE, _, rfl, post _ pE⟩
 ·exact ⟨ak, _, qE, _, rfl, post _ pE⟩
theorem a0.of_wp (bt : C.eO) {f : FuncId} {fn : Func} {c : Code} {fF : J} {fx : List Nat} {as outs : List j} {r : j} (bY : C.P.funcs[f]? = some fn) (U : fn.body = some c)
  (lo : (fn.name == "runtime.NumGoroutine") = false) (ab : bS ⟨fn.ntmps, fx⟩ c = some fF.strip) (bh : as.length ≤ fn.ntmps)
  (h : c4 C fF (fun e s => (e = .normal ∨ e = .ret) ∧ gg (Ends C fx fn.results.toList r outs) s) (fP as)) (ay : fF.plain = true := by kernel_rfl) : a0 C f as r outs :=
 fun w F X S vs hl a2 => FF bt bY U lo bh hl a2 fun a oM _ => NN bt c (by rw [J.Ft]; exact ab) (J.Fu fF (J.Nz fF ay)) (FA fF h) oM
end
def num : Nat → List j → List (Nat × j)
 | _, [] => []
 | k, a :: as => (k, a) :: num (k + 1) as
theorem NZ : ∀ (as : List j) (k t : Nat), R (num k as) (k + t) = as.getD t .hole := by
 intro as
 induction as with
 | nil => intro k t; simp [num, R]
 | cons a as ih =>
   intro k t
   cases t with
   | zero => simp [num, R]
   | succ t =>
     have := ih (k + 1) t
     simp only [num, R]
     rw [if_neg (by omega)]
     rw [show k + (t + 1) = k + 1 + t by omega, this]
     simp
theorem FH (as : List j) : fP as = R (num 0 as) := by
 funext t
 have := NZ as 0 t
 rw [Nat.zero_add] at this
 rw [this]; rfl
theorem kc (l : List (Nat × j)) (t : Nat) (d : j) : dq (R l) t d = R ((t, d) :: l) := by
 funext u; simp only [dq, R]
def nt (t : Nat) : List (Nat × j) → List (Nat × j)
 | [] => []
 | (u, d) :: l => (u, cK t d) :: nt t l
def q1 (t : Nat) : List (Nat × j) → List (Nat × j)
 | [] => []
 | (u, d) :: l => (u, ca t d) :: q1 t l
theorem uO (t : Nat) : ∀ l : List (Nat × j), k8 t (R l) = R (nt t l) := by
 intro l
 funext u
 induction l with
 | nil => rfl
 | cons p l ih =>
   obtain ⟨v, d⟩ := p
   simp only [k8, R, nt] at ih ⊢
   split
   ·rfl
   ·exact ih
theorem N0 (t : Nat) : ∀ l : List (Nat × j), ir t (R l) = R (q1 t l) := by
 intro l
 funext u
 induction l with
 | nil => rfl
 | cons p l ih =>
   obtain ⟨v, d⟩ := p
   simp only [ir, R, q1] at ih ⊢
   split
   ·rfl
   ·exact ih
def hY (k : List Nat) (s : ao) : List (Nat × j) := k.map fun t => (t, s t)
section
variable {C : b1} {l : List (Nat × j)}
def fy.q2 : fy → Bool
 | .call _ _ => true
 | .ae _ => false
 | .an _ => false
 | .pick _ _ _ => false
 | .dH _ => false
 | .dk _ _ => false
 | .ed _ _ => false
 | .cE _ _ _ => false
 | .aN _ _ => false
 | .ck _ _ _ => false
 | .c1 _ => false
 | .aP _ _ _ _ => false
 | .un _ _ => false
 | .fo _ _ _ => false
 | .ie _ _ => false
 | .fE _ _ _ => false
 | .eb _ _ _ _ => false
 | .a5 _ _ _ => false
 | .cf _ _ _ => false
 | .idx _ _ _ => false
 | .ex _ _ => false
 | .gH _ _ _ => false
 | .len _ _ => false
 | .app _ _ _ _ => false
 | .shr _ => true
 | .ic _ _ _ _ => false
 | .cap _ _ => false
 | .n2 _ _ _ => false
 | .bad => false
 | .lM _ _ _ _ => true
 | .kv _ _ _ => true
 | .hL _ _ => false
 | .lN _ => false
 | .kO _ => false
variable {Q : Exit → ao → Prop}
def j.uP : j → Bool
 | .tuple _ => true
 | _ => false
theorem Ends.one {fx : List Nat} {t : Nat} {r : j} {s : ao} (ag : s t = r) (ah : (r.tree && !r.uP) = true) : Ends C fx [.tmp t] r [] s := by
 simp only [Bool.and_eq_true, Bool.not_eq_true'] at ah
 obtain ⟨ah, xr⟩ := ah
 have aM : ∀ vs, r ≠ .tuple vs := fun vs e => by subst e; simp [j.uP] at xr
 refine ⟨[r], ?_, rfl, by simp, fun i o h => by simp at h⟩
 have : pD C s (.tmp t) = some r := by
  simp only [pD, ag, ah, if_true]
  try (cases r <;> first | rfl | exact (aM _ rfl).elim)
 simp only [List.map_cons, List.map_nil, this]
end
section
variable {C : b1} {l : List (Nat × j)} {Q : Exit → ao → Prop}
theorem a0.outs {f : FuncId} {as : List j} {r : j} {lj mg : List j} (h : a0 C f as r lj) (he : fP lj = fP mg) : a0 C f as r mg := by
 intro w F X S vs hl a2
 refine nk.mono (h w F X S vs hl a2) ?_
 rintro v aS ⟨bO, aU, bN⟩
 refine ⟨bO, aU, ?_⟩
 have : fP (r :: mg) = fP (r :: lj) := by
  funext t
  cases t with
  | zero => rfl
  | succ t => exact (congrFun he t).symm
 rw [this]; exact bN
def lp : List j → List j → List cH
 | a :: as, d :: ds => ⟨a, false, d, .hole⟩ :: lp as ds
 | _, _ => []
theorem N1 {s : ao} : ∀ (as ds : List j), views s as = some ds → (lp as ds).map (·.a) = as ∧ (lp as ds).map (·.d) = ds ∧ (∀ p ∈ lp as ds, p.ok s ∧ p.g = false ∧ p.o = .hole ∧ p.a ∈ as) ∧ hN (lp as ds) = true ∧
  fP ((lp as ds).map (·.o)) = fP [] ∧ (∀ oN, eK oN (lp as ds) = oN) ∧ (∀ oN, g_ oN (lp as ds) = oN) := by
 intro as
 induction as with
 | nil =>
   intro ds h
   simp only [views, Option.some.injEq] at h; subst h
   exact ⟨rfl, rfl, (fun p ay => by cases ay), rfl, rfl, fun _ => rfl, fun _ => rfl⟩
 | cons a as ih =>
   intro ds h
   simp only [views] at h
   split at h
   ·rename_i d N2 ag ah
    simp only [Option.some.injEq] at h; subst h
    obtain ⟨a1, bg, bf, cn, c3, b_, bV⟩ := ih N2 ah
    refine ⟨by simp only [lp, List.map_cons, a1], by simp only [lp, List.map_cons, bg], ?_, ?_, ?_, ?_, ?_⟩
    ·intro p ay
     simp only [lp, List.mem_cons] at ay
     rcases ay with rfl | ay
     ·exact ⟨by simp only [cH.ok]; exact ag, rfl, rfl, by simp⟩
     ·obtain ⟨a8, bA, ct, dZ⟩ := bf p ay
      exact ⟨a8, bA, ct, by simp [dZ]⟩
    ·simp only [lp, hN, cn, Bool.and_true, List.all_eq_true]
     intro p ay
     simp [(bf p ay).2.1]
    ·funext t
     cases t with
     | zero => rfl
     | succ t => exact (congrFun c3 t).trans (by simp [fP])
    ·intro oN; exact b_ oN
    ·intro oN; exact bV oN
   ·cases h
end
structure eL where
 bJ : List Nat
 H : List Nat
 T : List Nat
 c : Bool
mutual
def j.clean : j → Bool
 | .hole => false
 | .fn _ cap => j.sE cap
 | _ => true
def j.sE : List j → Bool
 | [] => true
 | d :: ds => d.clean && j.sE ds
end
mutual
theorem FI {x : Nat} : ∀ a : j, (ca x a).clean = true → ca x a = a
 | .h y q, h => by
   simp only [ca] at h ⊢
   split
   ·rename_i e; rw [if_pos e] at h
    split
    ·rfl
    ·rename_i gZ; rw [if_neg gZ] at h; simp [j.clean] at h
   ·rfl
 | .ay y q, h => by
   simp only [ca] at h ⊢
   split
   ·rename_i e; rw [if_pos e] at h; simp [j.clean] at h
   ·rfl
 | .U y q, h => rfl
 | .fn f cap, h => by simp only [ca, j.clean] at h ⊢; rw [FJ cap h]
 | .hole, _ => rfl
 | .bool _, _ => rfl
 | .eo, _ => rfl
 | .int _ _, _ => rfl
 | .str _, _ => rfl
 | .dj, _ => rfl
 | .af, _ => rfl
 | .slice _, _ => rfl
 | .ai _ _, _ => rfl
 | .ref _, _ => rfl
 | .aG _, _ => rfl
 | .agg _, _ => rfl
 | .tuple _, _ => rfl
theorem FJ {x : Nat} : ∀ ds : List j, j.sE (h_ x ds) = true → h_ x ds = ds
 | [], _ => rfl
 | d :: ds, h => by
   simp only [h_, j.sE, Bool.and_eq_true] at h ⊢
   rw [FI d h.1, FJ ds h.2]
end
mutual
theorem FK {x : Nat} : ∀ a : j, (cK x a).clean = true → cK x a = a
 | .h y q, h => by
   simp only [cK] at h ⊢
   split
   ·rename_i e; rw [if_pos e] at h; simp [j.clean] at h
   ·rfl
 | .ay y q, h => by
   simp only [cK] at h ⊢
   split
   ·rename_i e; rw [if_pos e] at h; simp [j.clean] at h
   ·rfl
 | .U y q, h => by
   simp only [cK] at h ⊢
   split
   ·rename_i e; rw [if_pos e] at h; simp [j.clean] at h
   ·rfl
 | .fn f cap, h => by simp only [cK, j.clean] at h ⊢; rw [FL cap h]
 | .hole, _ => rfl
 | .bool _, _ => rfl
 | .eo, _ => rfl
 | .int _ _, _ => rfl
 | .str _, _ => rfl
 | .dj, _ => rfl
 | .af, _ => rfl
 | .slice _, _ => rfl
 | .ai _ _, _ => rfl
 | .ref _, _ => rfl
 | .aG _, _ => rfl
 | .agg _, _ => rfl
 | .tuple _, _ => rfl
theorem FL {x : Nat} : ∀ ds : List j, j.sE (iF x ds) = true → iF x ds = ds
 | [], _ => rfl
 | d :: ds, h => by
   simp only [iF, j.sE, Bool.and_eq_true] at h ⊢
   rw [FK d h.1, FL ds h.2]
end
theorem N3 {k : n4} {x : Nat} {a : j} (h : (k.app x a).clean = true) : k.app x a = a := by
 cases k with
 | no => rfl
 | ca => exact FI a h
 | cK => exact FK a h
theorem N4 : ∀ (ms : List gn) (u : Nat) (a : j), (∀ m ∈ ms, m.x ≠ u) → (jq ms u a).clean = true → jq ms u a = a := by
 intro ms
 induction ms with
 | nil => intros; rfl
 | cons m ms ih =>
   intro u a aw az
   simp only [jq] at az ⊢
   have e := ih u _ (fun jn q3 => aw jn (by simp [q3])) az
   have hm : m.at u a = m.k.app m.x a := by
    simp only [gn.at]; rw [if_neg (fun e => aw m (by simp) e.symm)]
   rw [e, hm]
   rw [e, hm] at az
   exact N3 az
theorem N5 : ∀ (ms : List gn) (u : Nat) (a : j), (∀ m ∈ ms, m.x ≠ u ∧ m.x ∉ a.ab) → jq ms u a = a := by
 intro ms
 induction ms with
 | nil => intros; rfl
 | cons m ms ih =>
   intro u a aw
   simp only [jq]
   have hm : m.at u a = a := by
    simp only [gn.at]; rw [if_neg (fun e => (aw m (by simp)).1 e.symm)]
    exact uy (.inr (aw m (by simp)).2)
   rw [hm]
   exact ih u a fun jn q3 => aw jn (by simp [q3])
theorem N6 (m : gn) : ∀ (ms : List gn) (u : Nat) (a : j), (∀ jn ∈ ms, jn.x ≠ m.x ∧ jn.x ∉ m.d.ab ∧ m.x ∉ jn.d.ab) → jq ms u (m.at u a) = m.at u (jq ms u a) := by
 intro ms
 induction ms with
 | nil => intros; rfl
 | cons n ms ih =>
   intro u a aw
   simp only [jq]
   have bh := aw n (by simp)
   have az : n.at u (m.at u a) = m.at u (n.at u a) := by
    simp only [gn.at]
    by_cases a1 : u = n.x
    ·subst a1
     rw [if_pos rfl, if_neg bh.1, if_pos rfl]
     exact (uy (.inr bh.2.2)).symm
    ·rw [if_neg a1]
     by_cases bg : u = m.x
     ·subst bg
      rw [if_pos rfl, if_pos rfl]
      exact uy (.inr bh.2.1)
     ·rw [if_neg bg, if_neg a1, if_neg bg]
      exact Mn _ _ _ _ _
   rw [az]
   exact ih u _ fun jn q3 => aw jn (by simp [q3])
theorem N7 : ∀ (ms ka : List gn) (s : ao), (∀ m ∈ ms, ∀ n ∈ ka, n.x ≠ m.x ∧ n.x ∉ m.d.ab ∧ m.x ∉ n.d.ab) → di ka (di ms s) = di ms (di ka s) := by
 intro ms
 induction ms with
 | nil => intros; rfl
 | cons m ms ih =>
   intro ka s h
   have e : ∀ s, di (m :: ms) s = di ms (di [m] s) := fun s => kP [m] ms s
   rw [e, e, ih ka _ (fun jn q3 => h jn (by simp [q3]))]
   congr 1
   funext u
   simp only [di, jq]
   exact N6 m ka u _ (h m (by simp))
def Bt (C : b1) (s : ao) (f : aH) (args : List aH) (K : List Nat → j → ao → Prop) : Prop :=
 ∃ (g : FuncId) (caps : List j) (ps : List cH) (r : j), aI s f = .fn g caps ∧ j.d_ caps = true ∧ ps.map (·.a) = args.map (aI s) ++ caps ∧ (∀ p ∈ ps, p.ok s) ∧ hN ps = true ∧
   a0 C g (ps.map (·.d)) r (ps.map (·.o)) ∧ r.res = true ∧ (jr ps = true → r.dm = true ∧ ∀ p ∈ ps, p.o.dm = true) ∧ K (j.dV ((ps.filter (·.g)).map (·.a))) r (g_ (eK s ps) ps)
def mh (C : b1) (s : ao) (bz : fy) (K : List Nat → j → ao → Prop) : Prop :=
 match bz with
 | .call f args => ∃ (g : FuncId) (caps : List j) (ps : List cH) (r : j), aI s f = .fn g caps ∧ j.d_ caps = true ∧ ps.map (·.a) = args.map (aI s) ++ caps ∧ (∀ p ∈ ps, p.ok s) ∧ hN ps = true ∧
   a0 C g (ps.map (·.d)) r (ps.map (·.o)) ∧ r.res = true ∧ (jr ps = true → r.dm = true ∧ ∀ p ∈ ps, p.o.dm = true) ∧ K (j.dV ((ps.filter (·.g)).map (·.a))) r (g_ (eK s ps) ps)
 | .shr bz => ∃ av s1, bD C s bz = some (av, s1) ∧ av.tree = true ∧ (∀ vs, av ≠ .tuple vs) ∧ K (cY s bz) av.share s1
 | .lM f args u x => s u = .h x [] ∧ (s x).own = true ∧ Bt C s f args fun cG av s1 => s1 u = .hole ∧ (s1 x).own = true ∧ K (u :: cG) av (dq s1 u (.h x []))
 | .kv f args us => ky s (iO s us) = true ∧ Bt C s f args fun cG av s1 => ky s1 (iO s us) = true ∧ K (us ++ cG) av (lQ s1 (iO s us))
 | bz => ∃ av s1, bD C s bz = some (av, s1) ∧ K (cY s bz) av s1
def ij (s : ao) (bJ : List Nat) (dst : Option Nat) (cG : List Nat) (av : j) : eL :=
 ⟨bJ, bJ.flatMap (fun u => (s u).ab) ++ av.ab, dst.toList ++ cG, bJ.all fun u => (s u).clean⟩
def kS (C : b1) (s : ao) (o : cA) (K : eL → ao → Prop) : Prop :=
 match o.guard with
 | none => mh C s o.bz fun cG av s1 => K (ij s (use s o.bz) o.dst cG av) (fin s1 o.dst av)
 | some (t, b) => match s t with
   | .bool fl => if fl = b then mh C s o.bz (fun cG av s1 => K (ij s (t :: use s o.bz) o.dst cG av) (fin s1 o.dst av)) else K (ij s [t] o.dst [] (.tuple [])) (fin s o.dst (.tuple []))
   | .tuple [] => K (ij s [t] o.dst [] (.tuple [])) (fin s o.dst (.tuple []))
   | _ => False
def nu : Option (List eL) → eL → Option (List eL)
 | none, _ => none
 | some l, f => some (f :: l)
def bZ (C : b1) (s : ao) : List cA → Option (List eL) → (Option (List eL) → ao → Prop) → Prop
 | [], acc, K => K acc s
 | o :: os, acc, K => kS C s o fun f s1 => bZ C s1 os (nu acc f) K
section
variable {C : b1}
theorem FM {s : ao} {bz : fy} {K : List Nat → j → ao → Prop} {df : j → ao → Prop} (aB : ∀ cG av s, K cG av s → df av s) (h : mh C s bz K) : mR C s bz df := by
 cases bz with
 | call f args =>
   obtain ⟨g, caps, ps, r, ag, fq, ah, aM, bd, bI, cx, cy, eB⟩ := h
   exact ⟨g, caps, ps, r, ag, fq, ah, aM, bd, bI, cx, cy, aB _ _ _ eB⟩
 | lM f args u x =>
   obtain ⟨ch, cu, g, caps, ps, r, ag, fq, ah, aM, bd, bI, cx, cy, eB, iq, hk⟩ := h
   exact ⟨ch, cu, g, caps, ps, r, ag, fq, ah, aM, bd, bI, cx, cy, eB, iq, aB _ _ _ hk⟩
 | kv f args us =>
   obtain ⟨cu, g, caps, ps, r, ag, fq, ah, aM, bd, bI, cx, cy, eB, iq⟩ := h
   exact ⟨cu, g, caps, ps, r, ag, fq, ah, aM, bd, bI, cx, cy, eB, aB _ _ _ iq⟩
 | shr bz =>
   obtain ⟨av, s1, ag, ah, aM, bd⟩ := h
   exact ⟨av, s1, ag, ah, aM, aB _ _ _ bd⟩
 | _ =>
   obtain ⟨av, s1, ag, ah⟩ := h
   exact ⟨av, s1, ag, aB _ _ _ ah⟩
theorem N8 {s : ao} {o : cA} {K : eL → ao → Prop} {df : ao → Prop} (aB : ∀ f s, K f s → df s) (h : kS C s o K) : kR C s o df := by
 unfold kS at h
 unfold kR
 split
 ·rename_i bQ; rw [bQ] at h; exact FM (fun _ _ _ => aB _ _) h
 ·rename_i t b bQ
  rw [bQ] at h
  simp only at h
  split
  ·rename_i fl ab
   rw [ab] at h
   simp only at h
   split
   ·rename_i U; rw [if_pos U] at h; exact FM (fun _ _ _ => aB _ _) h
   ·rename_i U; rw [if_neg U] at h; exact aB _ _ h
  ·rename_i ab; rw [ab] at h; exact aB _ _ h
  ·rename_i ag ah
   split at h
   ·exact ag _ (by assumption)
   ·exact ah (by assumption)
   ·exact h
theorem xt {K : ao → Prop} : ∀ {ros : List cA} {s : ao} {acc : Option (List eL)} {df : Option (List eL) → ao → Prop}, (∀ a s, df a s → K s) → bZ C s ros acc df → kz C s ros K := by
 intro ros
 induction ros with
 | nil => intro s acc df aB h; exact aB _ _ h
 | cons o ros ih => intro s acc df aB h; exact N8 (fun f s h => ih aB h) h
theorem FN {q : List Nat} {a d : j} (h : j.sub q a = some d) (c9 : q ≠ [] ∨ d.ab = []) : a.ab = [] := by
 cases q with
 | nil =>
   simp only [j.sub, Option.some.injEq] at h; subst h
   exact c9.resolve_left (fun e => e rfl)
 | cons k q => cases a <;> first | rfl | (simp [j.sub] at h)
def xu (s : ao) (p : cH) (e : j → Prop) : Prop := p.g = true → ∃ x q d, p.a = .h x q ∧ j.sub q (s x) = some d ∧ e d ∧ (p.o = .hole ∨ p.o.fV = true)
theorem FO {d : j} (h : d.fV = true) : d.ab = [] := E6 (pr h).2.1
theorem FP {d : j} (h : d.fV = true) : d.c0.ab = [] := by cases d <;> first | rfl | (simp [j.fV] at h)
theorem FQ {p : cH} {ps : List cH} (h : hN (p :: ps) = true) : hN ps = true ∧ ∀ cl ∈ ps, (p.g = true ∨ cl.g = true) → ∀ u ∈ p.a.ab, u ∉ cl.a.ab := by
 simp only [hN, Bool.and_eq_true, List.all_eq_true, Bool.or_eq_true, Bool.not_eq_true'] at h
 refine ⟨h.2, fun cl dP bQ u hu => ?_⟩
 rcases h.1 cl dP with e | e
 ·rcases bQ with bQ | bQ <;> simp [bQ] at e
 ·simpa using e u hu
def oa (ps : List cH) : List Nat := j.dV ((ps.filter (·.g)).map (·.a))
theorem sF (p : cH) (ps : List cH) : (∀ u ∈ oa ps, u ∈ oa (p :: ps)) ∧ (p.g = true → ∀ u ∈ p.a.ab, u ∈ oa (p :: ps)) := by
 unfold oa
 by_cases bQ : p.g = true
 ·simp only [List.filter_cons, bQ, if_true, List.map_cons, j.dV, List.mem_append]
  exact ⟨fun u h => .inr h, fun _ u h => .inl h⟩
 ·simp only [List.filter_cons, bQ]
  exact ⟨fun u h => h, fun h => by simp at h⟩
theorem N9 {p : cH} {ps : List cH} (h : p ∈ ps) : ∀ u ∈ p.a.ab, u ∈ j.dV (ps.map (·.a)) := by
 induction ps with
 | nil => cases h
 | cons cl ps ih =>
   intro u hu
   simp only [List.map_cons, j.dV, List.mem_append]
   rcases List.mem_cons.1 h with rfl | h
   ·exact .inl hu
   ·exact .inr (ih h u hu)
theorem N_ : ∀ (ps : List cH) (s : ao), (∀ p ∈ ps, xu s p (fun d => d = p.d ∧ p.d.fV = true)) → hN ps = true →
  (∃ ms : List gn, (∀ m ∈ ms, m.x ∈ oa ps ∧ m.d.ab = []) ∧ ∀ aC, dx (j.dV (ps.map (·.a))) aC s → eK aC ps = di ms aC) ∧ ∀ p ∈ ps, xu (eK s ps) p (fun d => d = p.d.c0 ∧ p.d.fV = true) := by
 intro ps
 induction ps with
 | nil => intro s _ _; exact ⟨⟨[], by simp, fun aC _ => rfl⟩, fun p ay => by cases ay⟩
 | cons p ps ih =>
   intro s bQ j_
   obtain ⟨nj, mO⟩ := FQ j_
   by_cases lq : p.g = true
   ·obtain ⟨x, q, d, bX, ab, ⟨rfl, ak⟩, cr⟩ := bQ p (by simp) lq
    have j4 : (j.put q p.d.c0 (s x)).ab = [] := uz q _ _ _ ab (.inl (pr ak).1) fun _ => FP ak
    have uQ : ∀ aC : ao, aC x = s x → p.take aC = di [⟨.ca, x, j.put q p.d.c0 (s x)⟩] aC := by
     intro aC e
     simp only [cH.take, lq, if_true, bX, e, uw]
    have er : ∀ cl ∈ ps, ∀ cO iX, cl.a = .h cO iX → cO ≠ x := by
     intro cl dP cO iX e gZ
     have := mO cl dP (.inl lq) x (by simp [bX, j.ab])
     rw [e, gZ] at this; simp [j.ab] at this
    have pt : ∀ cO, cO ≠ x → (s cO).ab = [] → di [⟨.ca, x, j.put q p.d.c0 (s x)⟩] s cO = s cO := by
     intro cO pg bM
     simp only [di, jq, gn.at]
     rw [if_neg pg]
     exact uy (.inr (by rw [bM]; simp))
    obtain ⟨⟨ms, fg, gy⟩, iv⟩ := ih (di [⟨.ca, x, j.put q p.d.c0 (s x)⟩] s) (fun cl dP Bu => by
     obtain ⟨cO, iX, bw, qX, gJ, gQ, uR⟩ := bQ cl (by simp [dP]) Bu
     refine ⟨cO, iX, bw, qX, ?_, gQ, uR⟩
     rw [pt cO (er cl dP cO iX qX) (FN gJ (.inr (by rw [gQ.1]; exact FO gQ.2)))]; exact gJ) nj
    refine ⟨⟨[⟨.ca, x, j.put q p.d.c0 (s x)⟩] ++ ms, ?_, ?_⟩, ?_⟩
    ·intro m hm
     rcases List.mem_append.1 hm with hm | hm
     ·simp only [List.mem_singleton] at hm; subst hm
      exact ⟨(sF p ps).2 lq x (by simp [bX, j.ab]), j4⟩
     ·exact ⟨(sF p ps).1 _ (fg m hm).1, (fg m hm).2⟩
    ·intro aC gJ
     simp only [List.map_cons, j.dV] at gJ
     have e : aC x = s x := gJ x (by simp [bX, j.ab])
     rw [kP]
     show eK (p.take aC) ps = _
     rw [uQ aC e]
     exact gy _ (dx.di gJ.right _)
    ·have a1 : eK s (p :: ps) = eK (di [⟨.ca, x, j.put q p.d.c0 (s x)⟩] s) ps := by
      show eK (p.take s) ps = _
      rw [uQ s rfl]
     rw [a1]
     intro cl dP
     rcases List.mem_cons.1 dP with rfl | dP
     ·intro _
      refine ⟨x, q, cl.d.c0, bX, ?_, ⟨rfl, ak⟩, cr⟩
      have aQ : di [⟨.ca, x, j.put q cl.d.c0 (s x)⟩] s x = j.put q cl.d.c0 (s x) := by
       simp only [di, jq, gn.at, if_true]
      rw [A4 (by rw [aQ]; exact j4) (fun Oa Ob ajs => ?_), aQ]
      ·exact E2 q _ _ _ ab
      ·exact mO Oa Ob (.inl lq) x (by simp [bX, j.ab])
     ·exact iv cl dP
   ·have uQ : ∀ aC : ao, p.take aC = aC := by intro aC; simp only [cH.take, lq]; rfl
    obtain ⟨⟨ms, fg, gy⟩, iv⟩ := ih s (fun cl dP => bQ cl (by simp [dP])) nj
    refine ⟨⟨ms, fun m hm => ⟨(sF p ps).1 _ (fg m hm).1, (fg m hm).2⟩, ?_⟩, ?_⟩
    ·intro aC gJ
     simp only [List.map_cons, j.dV] at gJ
     show eK (p.take aC) ps = _
     rw [uQ]; exact gy aC gJ.right
    ·intro cl dP
     have a1 : eK s (p :: ps) = eK s ps := by show eK (p.take s) ps = _; rw [uQ]
     rw [a1]
     rcases List.mem_cons.1 dP with rfl | dP
     ·intro h; exact (lq h).elim
     ·exact iv cl dP
theorem Oc : ∀ (ps : List cH) (s : ao), (∀ p ∈ ps, xu s p (fun d => d = p.d.c0 ∧ p.d.fV = true)) → hN ps = true →
  (∃ ms : List gn, (∀ m ∈ ms, m.x ∈ oa ps ∧ m.d.ab = []) ∧ ∀ aC, dx (j.dV (ps.map (·.a))) aC s → g_ aC ps = di ms aC) := by
 intro ps
 induction ps with
 | nil => intro s _ _; exact ⟨[], by simp, fun aC _ => rfl⟩
 | cons p ps ih =>
   intro s bQ j_
   obtain ⟨nj, mO⟩ := FQ j_
   by_cases lq : p.g = true ∧ p.o ≠ .hole
   ·obtain ⟨lq, Od⟩ := lq
    obtain ⟨x, q, d, bX, ab, ⟨rfl, ak⟩, cr⟩ := bQ p (by simp) lq
    have cr : p.o.fV = true := cr.resolve_left Od
    have j4 : (j.put q p.o (s x)).ab = [] := by
     cases q with
     | nil => simp only [j.put]; exact FO cr
     | cons k q => exact uz _ _ _ _ ab (.inr (by simp)) (by simp)
    have Bv : ∀ aC : ao, aC x = s x → p.iM aC = di [⟨.cK, x, j.put q p.o (s x)⟩] aC := by
     intro aC e
     simp only [cH.iM, lq, if_true, bX]
     rw [e, EK]
    have er : ∀ cl ∈ ps, ∀ cO iX, cl.a = .h cO iX → cO ≠ x := by
     intro cl dP cO iX e gZ
     have := mO cl dP (.inl lq) x (by simp [bX, j.ab])
     rw [e, gZ] at this; simp [j.ab] at this
    obtain ⟨ms, fg, gy⟩ := ih (di [⟨.cK, x, j.put q p.o (s x)⟩] s) (fun cl dP Bu => by
     obtain ⟨cO, iX, bw, qX, gJ, gQ, uR⟩ := bQ cl (by simp [dP]) Bu
     refine ⟨cO, iX, bw, qX, ?_, gQ, uR⟩
     have bM := FN gJ (.inr (by rw [gQ.1]; exact FP gQ.2))
     have pt : di [⟨.cK, x, j.put q p.o (s x)⟩] s cO = s cO := by
      simp only [di, jq, gn.at]
      rw [if_neg (er cl dP cO iX qX)]
      exact uy (.inr (by rw [bM]; simp))
     rw [pt]; exact gJ) nj
    refine ⟨[⟨.cK, x, j.put q p.o (s x)⟩] ++ ms, ?_, ?_⟩
    ·intro m hm
     rcases List.mem_append.1 hm with hm | hm
     ·simp only [List.mem_singleton] at hm; subst hm
      exact ⟨(sF p ps).2 lq x (by simp [bX, j.ab]), j4⟩
     ·exact ⟨(sF p ps).1 _ (fg m hm).1, (fg m hm).2⟩
    ·intro aC gJ
     simp only [List.map_cons, j.dV] at gJ
     have e : aC x = s x := gJ x (by simp [bX, j.ab])
     rw [kP]
     show g_ (p.iM aC) ps = _
     rw [Bv aC e]
     exact gy _ (dx.di gJ.right _)
   ·have Bv : ∀ aC : ao, p.iM aC = aC := by
     intro aC
     unfold cH.iM
     split
     ·rename_i g9
      have : p.o = .hole := by
       by_cases h : p.o = .hole
       ·exact h
       ·exact (lq ⟨g9, h⟩).elim
      rw [this]
     ·rfl
    obtain ⟨ms, fg, gy⟩ := ih s (fun cl dP => bQ cl (by simp [dP])) nj
    refine ⟨ms, fun m hm => ⟨(sF p ps).1 _ (fg m hm).1, (fg m hm).2⟩, ?_⟩
    intro aC gJ
    simp only [List.map_cons, j.dV] at gJ
    show g_ (p.iM aC) ps = _
    rw [Bv]; exact gy aC gJ.right
theorem Oe {s aC : ao} : ∀ (a : j) (d : j), dx a.ab aC s → view s a = some d → view aC a = some d := by
 intro a d h
 have := A7 (s := s) (aC := aC) a d
 intro aQ
 cases a with
 | h x q => simp only [view] at aQ ⊢; rw [h x (by simp [j.ab])]; exact aQ
 | ay x q => simp only [view] at aQ ⊢; rw [h x (by simp [j.ab])]; exact aQ
 | fn f cap =>
   refine this (fun u hu _ => h u hu) aQ
 | _ => exact aQ
theorem Of {p : cH} {s aC : ao} (h : dx p.a.ab aC s) (fp : p.ok s) : p.ok aC := by
 unfold cH.ok at fp ⊢
 split
 ·rename_i bQ
  rw [if_pos bQ] at fp
  cases bX : p.a with
  | h x q =>
    rw [bX] at fp
    simp only at fp ⊢
    rw [h x (by simp [bX, j.ab])]; exact fp
  | _ => rw [bX] at fp; exact fp.elim
 ·rename_i bQ
  rw [if_neg bQ] at fp
  exact Oe _ _ h fp
def xv (C : b1) (o : cA) (s : ao) (jT : eL) (ms : List gn) : Prop :=
 (∀ aC, dx jT.bJ aC s → ∀ K : ao → Prop, K (di ms aC) → kR C aC o K) ∧ (∀ m ∈ ms, m.x ∈ jT.T ∧ ∀ u ∈ m.d.ab, u ∈ jT.H) ∧ (∀ u ∈ jT.bJ, ∀ x ∈ (s u).ab, x ∈ jT.H) ∧ (jT.c = true → ∀ u ∈ jT.bJ, (s u).clean = true)
theorem FR (dst : Option Nat) (av : j) : ∃ ms : List gn, (∀ m ∈ ms, m.x ∈ dst.toList ∧ m.d = av) ∧ ∀ s1 : ao, fin s1 dst av = di ms s1 := by
 cases dst with
 | none => exact ⟨[], by simp, fun s => rfl⟩
 | some t =>
   simp only [fin]
   by_cases h : av.plain = true
   ·exact ⟨[⟨.no, t, av⟩], by simp, fun s => by rw [if_pos h, AQ]⟩
   ·exact ⟨[⟨.cK, t, av⟩], by simp, fun s => by rw [if_neg h, EK]⟩
theorem xw {s : ao} {bJ : List Nat} {dst : Option Nat} {cG : List Nat} {av : j} : (∀ u ∈ (ij s bJ dst cG av).bJ, ∀ x ∈ (s u).ab, x ∈ (ij s bJ dst cG av).H) ∧ ((ij s bJ dst cG av).c = true → ∀ u ∈ (ij s bJ dst cG av).bJ, (s u).clean = true) := by
 refine ⟨fun u hu x aw => ?_, fun az => ?_⟩
 ·simp only [ij, List.mem_append, List.mem_flatMap]; exact .inl ⟨u, hu, aw⟩
 ·simp only [ij, List.all_eq_true] at az; exact az
theorem Bw {s : ao} {f : aH} {args : List aH} {K : List Nat → j → ao → Prop} (h : Bt C s f args K) :
  ∃ cG av ms, K cG av (di ms s) ∧ (∀ m ∈ ms, m.x ∈ cG ∧ m.d.ab = []) ∧ ∀ aC, dx (use s (.call f args)) aC s → ∀ df : j → ao → Prop, df av (di ms aC) → xk C aC f args df := by
 obtain ⟨g, caps, ps, r, ag, fq, ah, aM, bd, bI, cx, cy, eB⟩ := h
 have Og : ∀ p ∈ ps, xu s p (fun d => d = p.d ∧ p.d.fV = true) := by
  intro p ay bQ
  have := aM p ay
  simp only [cH.ok, bQ, if_true] at this
  cases bX : p.a with
  | h x q => rw [bX] at this; exact ⟨x, q, p.d, rfl, this.1, ⟨rfl, this.2.1⟩, this.2.2.imp id fun h => h.1⟩
  | _ => rw [bX] at this; exact this.elim
 obtain ⟨⟨ni, aa, a9⟩, gz⟩ := N_ ps s Og bd
 obtain ⟨qV, ja, hq⟩ := Oc ps (eK s ps) gz bd
 have n1 : ∀ u ∈ j.dV (ps.map (·.a)), u ∈ use s (.call f args) := by
  rw [ah]
  intro u hu
  simp only [use, List.mem_append]
  have key : ∀ (eY l2 : List j), u ∈ j.dV (eY ++ l2) → u ∈ j.dV eY ∨ u ∈ j.dV l2 := by
   intro eY
   induction eY with
   | nil => intro l2 h; exact .inr h
   | cons a eY ih =>
     intro l2 h
     simp only [List.cons_append, j.dV, List.mem_append] at h ⊢
     rcases h with h | h
     ·exact .inl (.inl h)
     ·exact (ih l2 h).imp .inr id
  rcases key _ _ hu with hu | hu
  ·exact .inr (aH.xg u hu)
  ·refine .inl (aH.qU u ?_)
   rw [ag]; exact hu
 have gd : g_ (eK s ps) ps = di (ni ++ qV) s := by
  rw [kP, ← a9 s (fun _ _ => rfl), hq _ (fun _ _ => rfl)]
 refine ⟨oa ps, r, ni ++ qV, by rw [← gd]; exact eB, ?_, ?_⟩
 ·intro m hm
  rcases List.mem_append.1 hm with hm | hm
  ·exact aa m hm
  ·exact ja m hm
 ·intro aC ab df aB
  have oK : dx (j.dV (ps.map (·.a))) aC s := ab.sub n1
  have bY : dx (f.use s) aC s := by simp only [use] at ab; exact ab.left
  have aw : dx (aH.mN s args) aC s := by simp only [use] at ab; exact ab.right
  have a1 : g_ (eK aC ps) ps = di (ni ++ qV) aC := by
   rw [kP, ← a9 aC oK, hq]
   rw [a9 aC oK, a9 s (fun _ _ => rfl)]
   exact dx.di oK _
  exact ⟨g, caps, ps, r, by rw [aH.fz bY]; exact ag, fq, by rw [aH.AV aw]; exact ah, fun p ay => Of (oK.sub (N9 ay)) (aM p ay), bd, bI, cx, cy, by rw [a1]; exact aB⟩
mutual
theorem FT {s aC : ao} : ∀ (d : j), dx d.ab aC s → d.fh aC = d.fh s
 | .h x q, h => by simp only [j.fh]; rw [h x (by simp [j.ab])]
 | .U x q, h => by simp only [j.fh]; rw [h x (by simp [j.ab])]
 | .fn f cap, h => by simp only [j.fh]; exact FU cap (by simpa only [j.ab] using h)
 | .ay _ _, _ => by simp only [j.fh]
 | .hole, _ => by simp only [j.fh]
 | .bool _, _ => by simp only [j.fh]
 | .eo, _ => by simp only [j.fh]
 | .int _ _, _ => by simp only [j.fh]
 | .str _, _ => by simp only [j.fh]
 | .dj, _ => by simp only [j.fh]
 | .af, _ => by simp only [j.fh]
 | .slice _, _ => by simp only [j.fh]
 | .ai _ _, _ => by simp only [j.fh]
 | .ref _, _ => by simp only [j.fh]
 | .aG _, _ => by simp only [j.fh]
 | .agg _, _ => by simp only [j.fh]
 | .tuple _, _ => by simp only [j.fh]
theorem FU {s aC : ao} : ∀ (ds : List j), dx (j.dV ds) aC s → j.mQ aC ds = j.mQ s ds
 | [], _ => rfl
 | d :: ds, h => by
   simp only [j.dV] at h
   simp only [j.mQ]; rw [FT d h.left, FU ds h.right]
end
theorem Bx {s aC : ao} {us : List Nat} (h : dx (us.flatMap fun u => u :: (s u).ab) aC s) : iO aC us = iO s us := by
 unfold iO
 refine List.map_congr_left fun u hu => ?_
 rw [h u (List.mem_flatMap.2 ⟨u, hu, by simp⟩)]
theorem Bz {s aC : ao} : ∀ (L : List (Nat × j)), (∀ p ∈ L, dx p.2.ab aC s) → ky aC L = ky s L
 | [], _ => rfl
 | p :: L, h => by
   simp only [ky]; rw [FT p.2 (h p (by simp)), Bz L (fun q c9 => h q (by simp [c9]))]
theorem FV : ∀ (L : List (Nat × j)) (s : ao), lQ s L = di (L.map fun p => ⟨.no, p.1, p.2⟩) s
 | [], s => rfl
 | p :: L, s => by
   simp only [lQ, List.map_cons]
   rw [FV L, AQ]
   exact (kP [⟨.no, p.1, p.2⟩] _ s).symm
theorem Oh {s : ao} {bz : fy} {K : List Nat → j → ao → Prop} (h : mh C s bz K) :
  ∃ cG av ms, K cG av (di ms s) ∧ (∀ m ∈ ms, m.x ∈ cG ∧ ∀ v ∈ m.d.ab, ∃ u ∈ use s bz, v ∈ (s u).ab) ∧ ∀ aC, dx (use s bz) aC s → ∀ df : j → ao → Prop, df av (di ms aC) → mR C aC bz df := by
 have plain : (∃ av s1, bD C s bz = some (av, s1) ∧ K (cY s bz) av s1) → (∀ aC (df : j → ao → Prop) av s1, bD C aC bz = some (av, s1) → df av s1 → mR C aC bz df) →
   ∃ cG av ms, K cG av (di ms s) ∧ (∀ m ∈ ms, m.x ∈ cG ∧ ∀ v ∈ m.d.ab, ∃ u ∈ use s bz, v ∈ (s u).ab) ∧ ∀ aC, dx (use s bz) aC s → ∀ df : j → ao → Prop, df av (di ms aC) → mR C aC bz df := by
  rintro ⟨av, s1, ag, ah⟩ hw
  obtain ⟨ms, a1, bg, bf⟩ := E0 ag
  subst a1
  exact ⟨_, av, ms, ah, fun m hm => ⟨(bg m hm).1, fun v aQ => by rw [(bg m hm).2] at aQ; cases aQ⟩, fun aC ab df aB => hw aC df av _ (bf aC ab) aB⟩
 cases bz with
 | call f args =>
   obtain ⟨cG, av, ms, aa, a9, gz⟩ := Bw h
   exact ⟨cG, av, ms, aa, fun m hm => ⟨(a9 m hm).1, fun v aQ => by rw [(a9 m hm).2] at aQ; cases aQ⟩, fun aC ab df aB => gz aC ab df aB⟩
 | lM f args u x =>
   obtain ⟨ch, cu, az⟩ := h
   obtain ⟨cG, av, ms, ⟨aa, BA, Oi⟩, a9, gz⟩ := Bw az
   have e : ∀ s : ao, dq (di ms s) u (.h x []) = di (ms ++ [⟨.no, u, .h x []⟩]) s := fun s => by rw [kP, ← AQ]
   refine ⟨u :: cG, av, ms ++ [⟨.no, u, .h x []⟩], by rw [← e]; exact Oi, ?_, ?_⟩
   ·intro m hm
    rcases List.mem_append.1 hm with hm | hm
    ·exact ⟨by simp [(a9 m hm).1], fun v aQ => by rw [(a9 m hm).2] at aQ; cases aQ⟩
    ·simp only [List.mem_singleton] at hm; subst hm
     refine ⟨by simp, fun v aQ => ⟨u, by simp [use], ?_⟩⟩
     rw [ch]; exact aQ
   ·intro aC ab df aB
    have FW : aC u = s u := ab u (by simp [use])
    have ex : aC x = s x := ab x (by simp [use])
    refine ⟨by rw [FW]; exact ch, by rw [ex]; exact cu, gz aC (fun y bL => ab y (by simp only [use, List.mem_cons] at bL ⊢; exact .inr (.inr bL))) _ ⟨?_, ?_, ?_⟩⟩
    ·have := aa; simp only [di] at this ⊢; rw [FW]; exact this
    ·have := BA; simp only [di] at this ⊢; rw [ex]; exact this
    ·rw [e]; exact aB
 | kv f args us =>
   obtain ⟨cu, az⟩ := h
   obtain ⟨cG, av, ms, ⟨aa, BA⟩, a9, gz⟩ := Bw az
   have e : ∀ aC : ao, lQ (di ms aC) (iO s us) = di (ms ++ (iO s us).map fun p => ⟨.no, p.1, p.2⟩) aC := fun aC => by rw [kP, FV]
   have kJ : ∀ {aC : ao}, dx (us.flatMap fun u => u :: (s u).ab) aC s → ∀ p ∈ iO s us, dx p.2.ab aC s := fun {aC} ab p ay v aQ => by
    obtain ⟨u, hu, rfl⟩ := List.mem_map.1 ay
    exact ab v (List.mem_flatMap.2 ⟨u, hu, by simp [aQ]⟩)
   refine ⟨us ++ cG, av, ms ++ (iO s us).map fun p => ⟨.no, p.1, p.2⟩, by rw [← e]; exact BA, ?_, ?_⟩
   ·intro m hm
    rcases List.mem_append.1 hm with hm | hm
    ·exact ⟨by simp [(a9 m hm).1], fun v aQ => by rw [(a9 m hm).2] at aQ; cases aQ⟩
    ·obtain ⟨p, ay, rfl⟩ := List.mem_map.1 hm
     obtain ⟨u, hu, rfl⟩ := List.mem_map.1 ay
     exact ⟨List.mem_append_left _ hu, fun v aQ => ⟨u, by simp only [use, List.mem_append, List.mem_flatMap]; exact .inl ⟨u, hu, by simp⟩, aQ⟩⟩
   ·intro aC ab df aB
    simp only [use] at ab
    refine ⟨by rw [Bx ab.left, Bz _ (kJ ab.left)]; exact cu, gz aC ab.right _ ⟨?_, ?_⟩⟩
    ·rw [Bx ab.left, Bz _ (fun p ay => (kJ ab.left p ay).di ms)]; exact aa
    ·rw [Bx ab.left, e]; exact aB
 | shr bz =>
   obtain ⟨av, s1, ag, ah, aM, bd⟩ := h
   obtain ⟨ms, a1, bg, bf⟩ := E0 ag
   subst a1
   exact ⟨_, av.share, ms, bd, fun m hm => ⟨(bg m hm).1, fun v aQ => by rw [(bg m hm).2] at aQ; cases aQ⟩, fun aC ab df aB => ⟨av, _, bf aC ab, ah, aM, aB⟩⟩
 | _ => exact plain h (fun aC df av s1 ag ah => ⟨av, s1, ag, ah⟩)
theorem Oj {s : ao} {o : cA} {K : eL → ao → Prop} (h : kS C s o K) : ∃ jT ms, K jT (di ms s) ∧ xv C o s jT ms := by
 have op : ∀ (bJ : List Nat), (∀ u ∈ use s o.bz, u ∈ bJ) → (∀ aC, dx bJ aC s → ∀ df : ao → Prop, mR C aC o.bz (fun av s1 => df (fin s1 o.dst av)) → kR C aC o df) →
   mh C s o.bz (fun cG av s1 => K (ij s bJ o.dst cG av) (fin s1 o.dst av)) → ∃ jT ms, K jT (di ms s) ∧ xv C o s jT ms := by
  intro bJ n1 l_ hw
  obtain ⟨cG, av, ms, ag, ah, aM⟩ := Oh hw
  obtain ⟨ka, jU, cT⟩ := FR o.dst av
  refine ⟨ij s bJ o.dst cG av, ms ++ ka, ?_, ?_, ?_, xw.1, xw.2⟩
  ·rw [kP, ← cT]; exact ag
  ·intro aC ab df aB
   refine l_ aC ab df (aM aC (ab.sub n1) _ ?_)
   rw [cT, ← kP]; exact aB
  ·intro m hm
   simp only [ij, List.mem_append]
   rcases List.mem_append.1 hm with hm | hm
   ·refine ⟨.inr (ah m hm).1, fun v aQ => .inl ?_⟩
    obtain ⟨u, hu, la⟩ := (ah m hm).2 v aQ
    exact List.mem_flatMap.2 ⟨u, n1 u hu, la⟩
   ·exact ⟨.inl (jU m hm).1, fun u hu => .inr (by rw [(jU m hm).2] at hu; exact hu)⟩
 have skip : ∀ t, (∀ aC, dx [t] aC s → ∀ df : ao → Prop, df (fin aC o.dst (.tuple [])) → kR C aC o df) → K (ij s [t] o.dst [] (.tuple [])) (fin s o.dst (.tuple [])) → ∃ jT ms, K jT (di ms s) ∧ xv C o s jT ms := by
  intro t l_ aB
  obtain ⟨ka, jU, cT⟩ := FR o.dst (.tuple [])
  refine ⟨_, ka, by rw [← cT]; exact aB, ?_, ?_, xw.1, xw.2⟩
  ·intro aC ab df j8
   exact l_ aC ab df (by rw [cT]; exact j8)
  ·intro m hm
   simp only [ij, List.mem_append]
   exact ⟨.inl (jU m hm).1, fun u hu => by rw [(jU m hm).2] at hu; simp [j.ab] at hu⟩
 unfold kS at h
 split at h
 ·rename_i bQ
  exact op _ (fun _ h => h) (fun aC _ df hw => by unfold kR; rw [bQ]; exact hw) h
 ·rename_i t b bQ
  split at h
  ·rename_i fl U
   split at h
   ·rename_i e
    refine op (t :: use s o.bz) (fun u hu => by simp [hu]) (fun aC ab df hw => ?_) h
    have : aC t = s t := ab t (by simp)
    unfold kR
    rw [bQ]
    simp only [this, U, if_pos e]
    exact hw
   ·rename_i e
    refine skip t (fun aC ab df aB => ?_) h
    have : aC t = s t := ab t (by simp)
    unfold kR
    rw [bQ]
    simp only [this, U, if_neg e]
    exact aB
  ·rename_i U
   refine skip t (fun aC ab df aB => ?_) h
   have : aC t = s t := ab t (by simp)
   unfold kR
   rw [bQ]
   simp only [this, U]
   exact aB
  ·exact h.elim
def pF (C : b1) (ros : List cA) : ao → List (Nat × eL × List gn) → Prop
 | _, [] => True
 | s, e :: r => (∃ o, ros[e.1]? = some o ∧ xv C o s e.2.1 e.2.2) ∧ pF C ros (di e.2.2 s) r
def nv (s : ao) (r : List (Nat × eL × List gn)) : ao := r.foldl (fun s e => di e.2.2 s) s
def mL (a b : List Nat) : Bool := a.all fun x => !b.contains x
theorem sG {a b : List Nat} (h : mL a b = true) : ∀ x ∈ a, x ∉ b := by
 intro x aw
 simp only [mL, List.all_eq_true] at h
 simpa using h x aw
def q4 (a b : eL) : Bool := mL b.T a.bJ && mL b.T a.H && mL b.T a.T && mL a.T b.bJ && mL a.T b.H && b.c
theorem Ok {ros : List cA} {s : ao} {a b : Nat × eL × List gn} {r : List (Nat × eL × List gn)} (h : pF C ros s (a :: b :: r)) (au : q4 a.2.1 b.2.1 = true) :
  pF C ros s (b :: a :: r) ∧ nv s (b :: a :: r) = nv s (a :: b :: r) := by
 obtain ⟨⟨Ol, bX, aa, a9, gz, qK⟩, ⟨Om, U, ja, hq, hM, b3⟩, a2⟩ := h
 simp only [q4, Bool.and_eq_true] at au
 obtain ⟨⟨⟨⟨⟨wQ, tI⟩, zZ⟩, On⟩, z0⟩, z1⟩ := au
 have BB : ∀ u ∈ b.2.1.bJ, di a.2.2 s u = s u := by
  intro u hu
  refine N4 _ _ _ (fun m hm e => ?_) (b3 z1 u hu)
  exact sG On m.x (a9 m hm).1 (e ▸ hu)
 have BC : ∀ u ∈ a.2.1.bJ, di b.2.2 s u = s u := by
  intro u hu
  refine N5 _ _ _ fun m hm => ⟨fun e => ?_, fun aw => ?_⟩
  ·exact sG wQ m.x (hq m hm).1 (e ▸ hu)
  ·exact sG tI m.x (hq m hm).1 (gz u hu _ aw)
 have FX : di b.2.2 (di a.2.2 s) = di a.2.2 (di b.2.2 s) := by
  refine N7 _ _ _ fun m hm n bh => ⟨fun e => ?_, fun h => ?_, fun h => ?_⟩
  ·exact sG zZ n.x (hq n bh).1 (e ▸ (a9 m hm).1)
  ·exact sG tI n.x (hq n bh).1 ((a9 m hm).2 _ h)
  ·exact sG z0 m.x (a9 m hm).1 ((hq n bh).2 _ h)
 refine ⟨⟨⟨Om, U, ?_, hq, ?_, ?_⟩, ⟨Ol, bX, ?_, a9, ?_, ?_⟩, ?_⟩, ?_⟩
 ·intro aC ab K aB
  exact ja aC (fun u hu => (ab u hu).trans (BB u hu).symm) K aB
 ·intro u hu x aw
  exact hM u hu x (by rw [BB u hu]; exact aw)
 ·intro az u hu
  have := b3 az u hu
  rwa [BB u hu] at this
 ·intro aC ab K aB
  exact aa aC (fun u hu => (ab u hu).trans (BC u hu)) K aB
 ·intro u hu x aw
  rw [BC u hu] at aw
  exact gz u hu x aw
 ·intro az u hu
  rw [BC u hu]
  exact qK az u hu
 ·rw [← FX]; exact a2
 ·simp only [nv, List.foldl_cons]
  rw [FX]
theorem Oo {ros : List cA} {e : Nat × eL × List gn} {post : List (Nat × eL × List gn)} : ∀ (pre : List (Nat × eL × List gn)) (s : ao), pF C ros s (pre ++ e :: post) → (∀ a ∈ pre, q4 a.2.1 e.2.1 = true) →
  pF C ros s (e :: (pre ++ post)) ∧ nv s (e :: (pre ++ post)) = nv s (pre ++ e :: post) := by
 intro pre
 induction pre with
 | nil => intro s h _; exact ⟨h, rfl⟩
 | cons a pre ih =>
   intro s h au
   obtain ⟨ag, ah⟩ := h
   obtain ⟨a8, bA⟩ := ih _ ah fun b U => au b (by simp [U])
   have az : pF C ros s (a :: e :: (pre ++ post)) := ⟨ag, a8⟩
   obtain ⟨ch, cu⟩ := Ok az (au a (by simp))
   refine ⟨ch, cu.trans ?_⟩
   simp only [nv, List.foldl_cons, List.cons_append] at bA ⊢
   exact bA
end
def uS : List (List Nat) → List (List Nat) → List (List Nat)
 | done, [] => done
 | done, a :: r => uS (done ++ [a ++ a.flatMap fun e => (done[e]?).getD []]) r
def nw (c_ : List (List Nat)) : List (List Nat) := uS [] c_
theorem Oq {c_ : List (List Nat)} {l : List Nat} (hl : ∀ u i v, l = u ++ i :: v → ∀ e ∈ (c_[i]?).getD [], e ∈ u) : ∀ (rest pre done : List (List Nat)), c_ = pre ++ rest → done.length = pre.length →
  (∀ u i v, l = u ++ i :: v → ∀ e ∈ (done[i]?).getD [], e ∈ u) → ∀ u i v, l = u ++ i :: v → ∀ e ∈ ((uS done rest)[i]?).getD [], e ∈ u := by
 intro rest
 induction rest with
 | nil => intro pre done _ _ h; exact h
 | cons a rest ih =>
   intro pre done FY hlen h
   simp only [uS]
   refine ih (pre ++ [a]) _ (by simp [FY]) (by simp [hlen]) ?_
   intro u i v hu e he
   by_cases au : i < done.length
   ·rw [List.getElem?_append_left au] at he
    exact h u i v hu e he
   ·rw [List.getElem?_append_right (by omega)] at he
    by_cases EI : i - done.length = 0
    ·rw [EI] at he
     simp only [List.getElem?_cons_zero, Option.getD_some, List.mem_append, List.mem_flatMap] at he
     have FZ : (c_[i]?).getD [] = a := by
      have : i = pre.length := by omega
      rw [FY, this, List.getElem?_append_right (Nat.le_refl _)]; simp
     rcases he with he | ⟨gZ, Bm, he⟩
     ·exact hl u i v hu e (by rw [FZ]; exact he)
     ·have uB := hl u i v hu gZ (by rw [FZ]; exact Bm)
      obtain ⟨oI, pn, rfl⟩ := List.append_of_mem uB
      have := h oI gZ (pn ++ i :: v) (by rw [hu]; simp) e he
      simp [this]
    ·rw [List.getElem?_eq_none (by simp; omega)] at he
     simp at he
theorem Ot {c_ : List (List Nat)} {l : List Nat} (hl : ∀ u i v, l = u ++ i :: v → ∀ e ∈ (c_[i]?).getD [], e ∈ u) : ∀ u i v, l = u ++ i :: v → ∀ e ∈ ((nw c_)[i]?).getD [], e ∈ u :=
 Oq hl c_ [] [] rfl rfl fun u i v _ e he => by simp at he
def jV (lR : List (List Nat)) : Nat → List (Nat × eL) → List eL → Bool
 | _, _, [] => true
 | aK, es, f :: ar => (es.all fun e => ((lR[aK]?).getD []).contains e.1 || q4 e.2 f) && jV lR (aK + 1) ((aK, f) :: es) ar
def BD (lR : List (List Nat)) (a b : Nat × eL × List gn) : Prop := a.1 ∈ (lR[b.1]?).getD [] ∨ q4 a.2.1 b.2.1 = true
theorem Ou {lR : List (List Nat)} : ∀ (gT : List (Nat × eL × List gn)) (aK : Nat) (es : List (Nat × eL)), gT.map (·.1) = (List.range gT.length).map (· + aK) → jV lR aK es (gT.map (·.2.1)) = true →
  gT.Pairwise (BD lR) ∧ ∀ e ∈ es, ∀ b ∈ gT, e.1 ∈ (lR[b.1]?).getD [] ∨ q4 e.2 b.2.1 = true := by
 intro gT
 induction gT with
 | nil => intro aK es _ _; exact ⟨.nil, fun e _ b U => by cases U⟩
 | cons a gT ih =>
   intro aK es q5 fp
   rw [List.length_cons, List.range_succ_eq_map, List.map_cons, List.map_cons, List.map_map] at q5
   simp only [List.cons.injEq, Nat.zero_add] at q5
   obtain ⟨cS, q5⟩ := q5
   simp only [List.map_cons, jV, Bool.and_eq_true, List.all_eq_true, Bool.or_eq_true] at fp
   obtain ⟨ag, ah⟩ := fp
   obtain ⟨a8, bA⟩ := ih (aK + 1) _ (by rw [q5]; congr 1; funext x; simp; omega) ah
   refine ⟨.cons (fun b U => ?_) a8, fun e he b U => ?_⟩
   ·have := bA (aK, a.2.1) (by simp) b U
    simp only [BD, cS]; exact this
   ·rcases List.mem_cons.1 U with rfl | U
    ·rw [cS]
     exact (ag e he).imp (fun h => by simpa using h) id
    ·exact bA e (by simp [he]) b U
section
variable {C : b1}
theorem Ov {K : Option (List eL) → ao → Prop} : ∀ (os pre : List cA) (s : ao) (acc : List eL), bZ C s os (some acc) K →
  ∃ gT, pF C (pre ++ os) s gT ∧ gT.map (·.1) = (List.range os.length).map (· + pre.length) ∧ K (some ((gT.map (·.2.1)).reverse ++ acc)) (nv s gT) := by
 intro os
 induction os with
 | nil => intro pre s acc h; exact ⟨[], trivial, rfl, h⟩
 | cons o os ih =>
   intro pre s acc h
   obtain ⟨jT, ms, ag, ah⟩ := Oj h
   obtain ⟨gT, a8, bA, ct⟩ := ih (pre ++ [o]) _ (jT :: acc) ag
   refine ⟨(pre.length, jT, ms) :: gT, ⟨⟨o, ?_, ah⟩, ?_⟩, ?_, ?_⟩
   ·rw [List.getElem?_append_right (Nat.le_refl _)]; simp
   ·simpa using a8
   ·rw [List.length_cons, List.range_succ_eq_map, List.map_cons, List.map_cons, List.map_map, bA]
    simp only [List.cons.injEq, Nat.zero_add, true_and]
    congr 1; funext x; simp; omega
   ·simpa [nv] using ct
theorem Ow {ros : List cA} {lR : List (List Nat)} {K : ao → Prop} : ∀ (l : List Nat) (gT : List (Nat × eL × List gn)) (s : ao), pF C ros s gT → gT.Pairwise (BD lR) → l.Nodup → (gT.map (·.1)).Nodup →
  (∀ i, i ∈ l ↔ i ∈ gT.map (·.1)) → (∀ u i v, l = u ++ i :: v → ∀ e ∈ (lR[i]?).getD [], e ∈ gT.map (·.1) → e ∈ u) → K (nv s gT) → ig C ros s l K := by
 intro l
 induction l with
 | nil =>
   intro gT s _ _ _ _ hm _ aB
   cases gT with
   | nil => exact aB
   | cons e gT => have := (hm e.1).2 (by simp); cases this
 | cons i l ih =>
   intro gT s az ay bh uu hm cr aB
   obtain ⟨e, he, au⟩ := List.mem_map.1 ((hm i).1 (by simp))
   obtain ⟨pre, post, rfl⟩ := List.append_of_mem he
   have Ox : ∀ a ∈ pre, q4 a.2.1 e.2.1 = true := by
    intro a bX
    have a2 := (List.pairwise_append.1 ay).2.2 a bX e (by simp)
    rcases a2 with a2 | a2
    ·rw [au] at a2
     have := cr [] i l rfl a.1 a2 (by simp only [List.map_append, List.mem_append, List.mem_map]; exact .inl ⟨a, bX, rfl⟩)
     cases this
    ·exact a2
   obtain ⟨a8, bA⟩ := Oo pre s az Ox
   obtain ⟨⟨o, Oy, Oz⟩, ct⟩ := a8
   have F1 : i ∉ (pre ++ post).map (·.1) := by
    have : (pre.map (·.1) ++ e.1 :: post.map (·.1)).Nodup := by simpa using uu
    have bN := (List.perm_middle.nodup_iff.1 this)
    rw [List.nodup_cons] at bN
    rw [← au]; simpa using bN.1
   simp only [ig]
   rw [← au, Oy]
   refine Oz.1 s (fun _ _ => rfl) _ ?_
   rw [List.nodup_cons] at bh
   refine ih (pre ++ post) _ ct ?_ bh.2 ?_ ?_ ?_ ?_
   ·exact ay.sublist ((List.Sublist.refl pre).append (List.sublist_cons_self e post))
   ·have : (pre.map (·.1) ++ e.1 :: post.map (·.1)).Nodup := by simpa using uu
    have bN := (List.perm_middle.nodup_iff.1 this)
    rw [List.nodup_cons] at bN
    simpa using bN.2
   ·intro aK
    constructor
    ·intro cS
     have ag := (hm aK).1 (by simp [cS])
     simp only [List.map_append, List.map_cons, List.mem_append, List.mem_cons] at ag ⊢
     rcases ag with ag | rfl | ag
     ·exact .inl ag
     ·exact (bh.1 (au ▸ cS)).elim
     ·exact .inr ag
    ·intro cS
     have ag := (hm aK).2 (by
      simp only [List.map_append, List.map_cons, List.mem_append, List.mem_cons] at cS ⊢
      exact cS.imp id .inr)
     rcases List.mem_cons.1 ag with rfl | ag
     ·exact (F1 cS).elim
     ·exact ag
   ·intro u aK v hu x aw BE
    have ag := cr (i :: u) aK v (by rw [hu]; rfl) x aw (by
     simp only [List.map_append, List.map_cons, List.mem_append, List.mem_cons] at BE ⊢
     exact BE.imp id .inr)
    rcases List.mem_cons.1 ag with rfl | ag
    ·exact (F1 BE).elim
    ·exact ag
   ·have : nv s (e :: (pre ++ post)) = nv (di e.2.2 s) (pre ++ post) := rfl
    rw [← this, bA]; exact aB
theorem xx {ros : List cA} {c_ : List (List Nat)} {s : ao} {K : ao → Prop} (hlen : c_.length = ros.length)
  (h : bZ C s ros (some []) (fun acc s => jV (nw c_) 0 [] (acc.getD []).reverse = true ∧ K s)) : ∀ l, nq c_ l → ig C ros s l K := by
 intro l ⟨eY, l2, Bb⟩
 obtain ⟨gT, a8, bA, ct, dZ⟩ := Ov ros [] s [] h
 simp only [List.nil_append, List.append_nil, List.length_nil, Option.getD_some, List.reverse_reverse] at a8 bA ct
 have hl : gT.length = ros.length := by have := congrArg List.length bA; simpa using this
 have q5 : gT.map (·.1) = (List.range gT.length).map (· + 0) := by rw [bA, hl]
 have a2 : gT.map (·.1) = List.range ros.length := by rw [bA]; simp
 obtain ⟨e5, _⟩ := Ou gT 0 [] q5 ct
 refine Ow l gT s a8 e5 eY (by rw [a2]; exact List.nodup_range) (fun i => ?_) (fun u i v hu e he _ => Ot Bb u i v hu e he) dZ
 rw [a2, l2, hlen, List.mem_range]
end
def da (C : b1) (dst : Option Nat) (os : List cA) (K : Option (List eL) → ao → Prop) : Option (j × ao) → Prop
 | some (av, s1) => bZ C (fin s1 dst av) os none K
 | none => False
def dg (C : b1) (l : List (Nat × j)) (bJ cG : List Nat) (dst : Option Nat) (os : List cA) (a : List eL) (K : Option (List eL) → ao → Prop) : Option (j × ao) → Prop
 | some (av, s1) => bZ C (fin s1 dst av) os (some (ij (R l) bJ dst cG av :: a)) K
 | none => False
def cg (C : b1) (l : List (Nat × j)) (dst : Option Nat) (bz : fy) (t : Nat) (b : Bool) (os : List cA) (acc : Option (List eL)) (K : Option (List eL) → ao → Prop) : j → Prop
 | .bool fl => if fl = b then mh C (R l) bz (fun cG av s1 => bZ C (fin s1 dst av) os (nu acc (ij (R l) (t :: use (R l) bz) dst cG av)) K) else bZ C (fin (R l) dst (.tuple [])) os (nu acc (ij (R l) [t] dst [] (.tuple []))) K
 | .tuple [] => bZ C (fin (R l) dst (.tuple [])) os (nu acc (ij (R l) [t] dst [] (.tuple []))) K
 | _ => False
section
variable {C : b1} {l : List (Nat × j)} {os : List cA} {K : Option (List eL) → ao → Prop} {dst : Option Nat} {a : List eL} {acc : Option (List eL)}
theorem xy {s : ao} {bz : fy} {K : List Nat → j → ao → Prop} (bh : bz.q2 = false) : mh C s bz K = (match bD C s bz with
  | some (av, s1) => K (cY s bz) av s1
  | none => False) := by
 apply propext
 constructor
 ·intro h
  cases bz <;> first
   | (simp [fy.q2] at bh; done)
   | (obtain ⟨av, s1, ag, ah⟩ := h; rw [ag]; exact ah)
 ·intro h
  split at h
  ·rename_i av s1 he
   cases bz <;> first
    | (simp [fy.q2] at bh; done)
    | exact ⟨av, s1, he, h⟩
  ·exact h.elim
theorem F2 : bZ C (R l) [] acc K = K acc (R l) := rfl
theorem hO {bz : fy} (bh : bz.q2 = false) : bZ C (R l) (⟨dst, bz, none⟩ :: os) none K = da C dst os K (bD C (R l) bz) := by
 simp only [bZ, kS, nu]
 rw [xy bh]
 cases bD C (R l) bz with
 | none => rfl
 | some p => rfl
theorem hZ {bz : fy} (bh : bz.q2 = false) : bZ C (R l) (⟨dst, bz, none⟩ :: os) (some a) K = dg C l (use (R l) bz) (cY (R l) bz) dst os a K (bD C (R l) bz) := by
 simp only [bZ, kS, nu]
 rw [xy bh]
 cases bD C (R l) bz with
 | none => rfl
 | some p => rfl
theorem F3 {bz : fy} {t : Nat} {b : Bool} : bZ C (R l) (⟨dst, bz, some (t, b)⟩ :: os) acc K = cg C l dst bz t b os acc K (R l t) := by
 simp only [bZ, kS]
 generalize R l t = v
 cases v <;> first | rfl | (rename_i vs; cases vs <;> rfl)
theorem fa {bz : fy} {t : Nat} {b : Bool} (bh : bz.q2 = false) : cg C l dst bz t b os none K (.bool b) = da C dst os K (bD C (R l) bz) := by
 simp only [cg, if_true]
 rw [xy bh]
 cases bD C (R l) bz with
 | none => rfl
 | some p => rfl
theorem fb {bz : fy} {t : Nat} {b : Bool} (bh : bz.q2 = false) : cg C l dst bz t b os (some a) K (.bool b) = dg C l (t :: use (R l) bz) (cY (R l) bz) dst os a K (bD C (R l) bz) := by
 simp only [cg, if_true]
 rw [xy bh]
 cases bD C (R l) bz with
 | none => rfl
 | some p => rfl
theorem OA {bz : fy} {t : Nat} : cg C l dst bz t true os none K (.bool false) = bZ C (fin (R l) dst (.tuple [])) os none K ∧ cg C l dst bz t false os none K (.bool true) = bZ C (fin (R l) dst (.tuple [])) os none K ∧
  (∀ b, cg C l dst bz t b os none K (.tuple []) = bZ C (fin (R l) dst (.tuple [])) os none K) := ⟨rfl, rfl, fun _ => rfl⟩
theorem OB {bz : fy} {t : Nat} : cg C l dst bz t true os (some a) K (.bool false) = bZ C (fin (R l) dst (.tuple [])) os (some (ij (R l) [t] dst [] (.tuple []) :: a)) K ∧
  cg C l dst bz t false os (some a) K (.bool true) = bZ C (fin (R l) dst (.tuple [])) os (some (ij (R l) [t] dst [] (.tuple []) :: a)) K ∧
  (∀ b, cg C l dst bz t b os (some a) K (.tuple []) = bZ C (fin (R l) dst (.tuple [])) os (some (ij (R l) [t] dst [] (.tuple []) :: a)) K) := ⟨rfl, rfl, fun _ => rfl⟩
theorem OC (av : j) (s1 : ao) : da C dst os K (some (av, s1)) = bZ C (fin s1 dst av) os none K := rfl
theorem OD (bJ cG : List Nat) (av : j) (s1 : ao) : dg C l bJ cG dst os a K (some (av, s1)) = bZ C (fin s1 dst av) os (some (ij (R l) bJ dst cG av :: a)) K := rfl
def hB (s : ao) : j → Option (j × ao)
 | .h y q => cG s (.h y q)
 | d => some (d, s)
def pG (s : ao) : j → j → j → Option (j × ao)
 | .bool fl, x, y => some (if fl then x else y, s)
 | _, _, _ => none
def cV (s : ao) : Option j → Option (j × ao)
 | some d => some (d, s)
 | none => none
def fW : Option ao → Option (j × ao)
 | some s1 => some (.hole, s1)
 | none => none
def hC (s : ao) : List aH → List j
 | [] => []
 | x :: xs => aI s x :: hC s xs
def jK (s : ao) : List (Nat × aH) → List (Nat × j)
 | [] => []
 | (k, x) :: xs => (k, aI s x) :: jK s xs
def kB (s : ao) : Option aH → Option j
 | none => none
 | some x => some (aI s x)
theorem mi (s : ao) (x : Option j) : (x.map fun d => (d, s)) = cV s x := by cases x <;> rfl
theorem OE (x : Option ao) : (x.map fun s1 => (j.hole, s1)) = fW x := by cases x <;> rfl
theorem uT (s : ao) : ∀ xs : List aH, xs.map (aI s) = hC s xs
 | [] => rfl
 | x :: xs => by simp only [List.map_cons, hC, uT s xs]
theorem BF (s : ao) : ∀ xs : List (Nat × aH), (xs.map fun p => (p.1, aI s p.2)) = jK s xs
 | [] => rfl
 | (k, x) :: xs => by simp only [List.map_cons, jK, BF s xs]
theorem OG (s : ao) (x : Option aH) : x.map (aI s) = kB s x := by cases x <;> rfl
theorem sH (x : aH) : bD C (R l) (.ae x) = some (aI (R l) x, R l) := by
 rfl
theorem sI (x : aH) : bD C (R l) (.an x) = hB (R l) (aI (R l) x) := by
 simp only [bD]; cases aI (R l) x <;> rfl
theorem sJ (c x y : aH) : bD C (R l) (.pick c x y) = pG (R l) (aI (R l) c) (aI (R l) x) (aI (R l) y) := by
 simp only [bD]; cases aI (R l) c <;> first | rfl | (rename_i b; cases b <;> rfl)
theorem sK (T : TypeId) : bD C (R l) (.dH T) = cV (R l) (dH C T) := by
 simp only [bD, mi]
theorem sL (T : TypeId) (x : aH) : bD C (R l) (.dk T x) = dk (R l) (aI (R l) x) := by
 rfl
theorem sM (T : TypeId) (ps : List (Nat × aH)) : bD C (R l) (.ed T ps) = ed C (R l) T (jK (R l) ps) := by
 simp only [bD, BF]
theorem oO (T : TypeId) (n : Nat) (ps : List (Nat × aH)) : bD C (R l) (.cE T n ps) = cE C (R l) T n (jK (R l) ps) := by
 simp only [bD, BF]
theorem sN (T : TypeId) (x : aH) : bD C (R l) (.aN T x) = cV (R l) (aN C (R l) T (aI (R l) x)) := by
 simp only [bD, mi]
theorem sO (T : TypeId) (x y : aH) : bD C (R l) (.ck T x y) = fW (ck C (R l) T (aI (R l) x) (aI (R l) y)) := by
 simp only [bD, OE]
theorem sP (x : aH) : bD C (R l) (.c1 x) = cV (R l) (c1 (R l) (aI (R l) x)) := by
 simp only [bD, mi]
theorem sQ (op : BinOp) (T : TypeId) (x y : aH) : bD C (R l) (.aP op T x y) = cV (R l) (aP C (R l) op T (aI (R l) x) (aI (R l) y)) := by
 simp only [bD, mi]
theorem sR (op : UnOp) (x : aH) : bD C (R l) (.un op x) = cV (R l) (un op (aI (R l) x)) := by
 simp only [bD, mi]
theorem sS (A B : TypeId) (x : aH) : bD C (R l) (.fo A B x) = cV (R l) (fo C (R l) A B (aI (R l) x)) := by
 simp only [bD, mi]
theorem sT (f : FuncId) (cs : List aH) : bD C (R l) (.ie f cs) = some (.fn f (hC (R l) cs), R l) := by
 simp only [bD, uT]
theorem sU (T : TypeId) (x y : aH) : bD C (R l) (.fE T x y) = cV (R l) (fE C T (aI (R l) x) (aI (R l) y)) := by
 simp only [bD, mi]
theorem sV (T : TypeId) (x : aH) (cW au : Option aH) : bD C (R l) (.eb T x cW au) = eb C (R l) T (aI (R l) x) (kB (R l) cW) (kB (R l) au) := by
 simp only [bD, OG]
theorem sW (T : TypeId) (x : aH) (k : Nat) : bD C (R l) (.a5 T x k) = cV (R l) (a5 C (R l) T (aI (R l) x) k) := by
 simp only [bD, mi]
theorem sX (T : TypeId) (x y : aH) : bD C (R l) (.cf T x y) = cV (R l) (cf C (R l) T (aI (R l) x) (aI (R l) y)) := by
 simp only [bD, mi]
theorem sY (T : TypeId) (x y : aH) : bD C (R l) (.idx T x y) = cV (R l) (idx C T (aI (R l) x) (aI (R l) y)) := by
 simp only [bD, mi]
theorem sZ (x : aH) (k : Nat) : bD C (R l) (.ex x k) = cV (R l) (ex (R l) (aI (R l) x) k) := by
 simp only [bD, mi]
theorem s0 (T : TypeId) (x : aH) : bD C (R l) (.len T x) = cV (R l) (ld C (R l) T (aI (R l) x)) := by
 simp only [bD, mi]
theorem s3 (T bJ : TypeId) (x y : aH) : bD C (R l) (.app T bJ x y) = lg C (R l) T bJ (aI (R l) x) (aI (R l) y) := by
 rfl
theorem OH :
  (∀ (x : aH) , bZ C (R l) (⟨dst, .ae x, none⟩ :: os) none K = da C dst os K (some (aI (R l) x, R l))) ∧
  (∀ (x : aH) , bZ C (R l) (⟨dst, .an x, none⟩ :: os) none K = da C dst os K (hB (R l) (aI (R l) x))) ∧
  (∀ (c x y : aH) , bZ C (R l) (⟨dst, .pick c x y, none⟩ :: os) none K = da C dst os K (pG (R l) (aI (R l) c) (aI (R l) x) (aI (R l) y))) ∧
  (∀ (T : TypeId) , bZ C (R l) (⟨dst, .dH T, none⟩ :: os) none K = da C dst os K (cV (R l) (dH C T))) ∧
  (∀ (T : TypeId) (x : aH) , bZ C (R l) (⟨dst, .dk T x, none⟩ :: os) none K = da C dst os K (dk (R l) (aI (R l) x))) ∧
  (∀ (T : TypeId) (ps : List (Nat × aH)) , bZ C (R l) (⟨dst, .ed T ps, none⟩ :: os) none K = da C dst os K (ed C (R l) T (jK (R l) ps))) ∧
  (∀ (T : TypeId) (n : Nat) (ps : List (Nat × aH)) , bZ C (R l) (⟨dst, .cE T n ps, none⟩ :: os) none K = da C dst os K (cE C (R l) T n (jK (R l) ps))) ∧
  (∀ (T : TypeId) (x : aH) , bZ C (R l) (⟨dst, .aN T x, none⟩ :: os) none K = da C dst os K (cV (R l) (aN C (R l) T (aI (R l) x)))) ∧
  (∀ (T : TypeId) (x y : aH) , bZ C (R l) (⟨dst, .ck T x y, none⟩ :: os) none K = da C dst os K (fW (ck C (R l) T (aI (R l) x) (aI (R l) y)))) ∧
  (∀ (x : aH) , bZ C (R l) (⟨dst, .c1 x, none⟩ :: os) none K = da C dst os K (cV (R l) (c1 (R l) (aI (R l) x)))) ∧
  (∀ (op : BinOp) (T : TypeId) (x y : aH) , bZ C (R l) (⟨dst, .aP op T x y, none⟩ :: os) none K = da C dst os K (cV (R l) (aP C (R l) op T (aI (R l) x) (aI (R l) y)))) ∧
  (∀ (op : UnOp) (x : aH) , bZ C (R l) (⟨dst, .un op x, none⟩ :: os) none K = da C dst os K (cV (R l) (un op (aI (R l) x)))) ∧
  (∀ (A B : TypeId) (x : aH) , bZ C (R l) (⟨dst, .fo A B x, none⟩ :: os) none K = da C dst os K (cV (R l) (fo C (R l) A B (aI (R l) x)))) ∧
  (∀ (f : FuncId) (cs : List aH) , bZ C (R l) (⟨dst, .ie f cs, none⟩ :: os) none K = da C dst os K (some (.fn f (hC (R l) cs), R l))) ∧
  (∀ (T : TypeId) (x y : aH) , bZ C (R l) (⟨dst, .fE T x y, none⟩ :: os) none K = da C dst os K (cV (R l) (fE C T (aI (R l) x) (aI (R l) y)))) ∧
  (∀ (T : TypeId) (x : aH) (cW au : Option aH) , bZ C (R l) (⟨dst, .eb T x cW au, none⟩ :: os) none K = da C dst os K (eb C (R l) T (aI (R l) x) (kB (R l) cW) (kB (R l) au))) ∧
  (∀ (T : TypeId) (x : aH) (k : Nat) , bZ C (R l) (⟨dst, .a5 T x k, none⟩ :: os) none K = da C dst os K (cV (R l) (a5 C (R l) T (aI (R l) x) k))) ∧
  (∀ (T : TypeId) (x y : aH) , bZ C (R l) (⟨dst, .cf T x y, none⟩ :: os) none K = da C dst os K (cV (R l) (cf C (R l) T (aI (R l) x) (aI (R l) y)))) ∧
  (∀ (T : TypeId) (x y : aH) , bZ C (R l) (⟨dst, .idx T x y, none⟩ :: os) none K = da C dst os K (cV (R l) (idx C T (aI (R l) x) (aI (R l) y)))) ∧
  (∀ (x : aH) (k : Nat) , bZ C (R l) (⟨dst, .ex x k, none⟩ :: os) none K = da C dst os K (cV (R l) (ex (R l) (aI (R l) x) k))) ∧
  (∀ (T : TypeId) (x : aH) , bZ C (R l) (⟨dst, .len T x, none⟩ :: os) none K = da C dst os K (cV (R l) (ld C (R l) T (aI (R l) x)))) ∧
  (∀ (T bJ : TypeId) (x y : aH) , bZ C (R l) (⟨dst, .app T bJ x y, none⟩ :: os) none K = da C dst os K (lg C (R l) T bJ (aI (R l) x) (aI (R l) y))) :=
 ⟨fun x => (hO rfl).trans (congrArg _ (sH x)), fun x => (hO rfl).trans (congrArg _ (sI x)), fun c x y => (hO rfl).trans (congrArg _ (sJ c x y)), fun T => (hO rfl).trans (congrArg _ (sK T)), fun T x => (hO rfl).trans (congrArg _ (sL T x)), fun T ps => (hO rfl).trans (congrArg _ (sM T ps)), fun T n ps => (hO rfl).trans (congrArg _ (oO T n ps)), fun T x => (hO rfl).trans (congrArg _ (sN T x)), fun T x y => (hO rfl).trans (congrArg _ (sO T x y)), fun x => (hO rfl).trans (congrArg _ (sP x)), fun op T x y => (hO rfl).trans (congrArg _ (sQ op T x y)), fun op x => (hO rfl).trans (congrArg _ (sR op x)), fun A B x => (hO rfl).trans (congrArg _ (sS A B x)), fun f cs => (hO rfl).trans (congrArg _ (sT f cs)), fun T x y => (hO rfl).trans (congrArg _ (sU T x y)), fun T x cW au => (hO rfl).trans (congrArg _ (sV T x cW au)), fun T x k => (hO rfl).trans (congrArg _ (sW T x k)), fun T x y => (hO rfl).trans (congrArg _ (sX T x y)), fun T x y => (hO rfl).trans (congrArg _ (sY T x y)), fun x k => (hO rfl).trans (congrArg _ (sZ x k)), fun T x => (hO rfl).trans (congrArg _ (s0 T x)), fun T bJ x y => (hO rfl).trans (congrArg _ (s3 T bJ x y))⟩
theorem OI :
  (∀ (x : aH) , bZ C (R l) (⟨dst, .ae x, none⟩ :: os) (some a) K = dg C l (use (R l) (.ae x)) (cY (R l) (.ae x)) dst os a K (some (aI (R l) x, R l))) ∧
  (∀ (x : aH) , bZ C (R l) (⟨dst, .an x, none⟩ :: os) (some a) K = dg C l (use (R l) (.an x)) (cY (R l) (.an x)) dst os a K (hB (R l) (aI (R l) x))) ∧
  (∀ (c x y : aH) , bZ C (R l) (⟨dst, .pick c x y, none⟩ :: os) (some a) K = dg C l (use (R l) (.pick c x y)) (cY (R l) (.pick c x y)) dst os a K (pG (R l) (aI (R l) c) (aI (R l) x) (aI (R l) y))) ∧
  (∀ (T : TypeId) , bZ C (R l) (⟨dst, .dH T, none⟩ :: os) (some a) K = dg C l (use (R l) (.dH T)) (cY (R l) (.dH T)) dst os a K (cV (R l) (dH C T))) ∧
  (∀ (T : TypeId) (x : aH) , bZ C (R l) (⟨dst, .dk T x, none⟩ :: os) (some a) K = dg C l (use (R l) (.dk T x)) (cY (R l) (.dk T x)) dst os a K (dk (R l) (aI (R l) x))) ∧
  (∀ (T : TypeId) (ps : List (Nat × aH)) , bZ C (R l) (⟨dst, .ed T ps, none⟩ :: os) (some a) K = dg C l (use (R l) (.ed T ps)) (cY (R l) (.ed T ps)) dst os a K (ed C (R l) T (jK (R l) ps))) ∧
  (∀ (T : TypeId) (n : Nat) (ps : List (Nat × aH)) , bZ C (R l) (⟨dst, .cE T n ps, none⟩ :: os) (some a) K = dg C l (use (R l) (.cE T n ps)) (cY (R l) (.cE T n ps)) dst os a K (cE C (R l) T n (jK (R l) ps))) ∧
  (∀ (T : TypeId) (x : aH) , bZ C (R l) (⟨dst, .aN T x, none⟩ :: os) (some a) K = dg C l (use (R l) (.aN T x)) (cY (R l) (.aN T x)) dst os a K (cV (R l) (aN C (R l) T (aI (R l) x)))) ∧
  (∀ (T : TypeId) (x y : aH) , bZ C (R l) (⟨dst, .ck T x y, none⟩ :: os) (some a) K = dg C l (use (R l) (.ck T x y)) (cY (R l) (.ck T x y)) dst os a K (fW (ck C (R l) T (aI (R l) x) (aI (R l) y)))) ∧
  (∀ (x : aH) , bZ C (R l) (⟨dst, .c1 x, none⟩ :: os) (some a) K = dg C l (use (R l) (.c1 x)) (cY (R l) (.c1 x)) dst os a K (cV (R l) (c1 (R l) (aI (R l) x)))) ∧
  (∀ (op : BinOp) (T : TypeId) (x y : aH) , bZ C (R l) (⟨dst, .aP op T x y, none⟩ :: os) (some a) K = dg C l (use (R l) (.aP op T x y)) (cY (R l) (.aP op T x y)) dst os a K (cV (R l) (aP C (R l) op T (aI (R l) x) (aI (R l) y)))) ∧
  (∀ (op : UnOp) (x : aH) , bZ C (R l) (⟨dst, .un op x, none⟩ :: os) (some a) K = dg C l (use (R l) (.un op x)) (cY (R l) (.un op x)) dst os a K (cV (R l) (un op (aI (R l) x)))) ∧
  (∀ (A B : TypeId) (x : aH) , bZ C (R l) (⟨dst, .fo A B x, none⟩ :: os) (some a) K = dg C l (use (R l) (.fo A B x)) (cY (R l) (.fo A B x)) dst os a K (cV (R l) (fo C (R l) A B (aI (R l) x)))) ∧
  (∀ (f : FuncId) (cs : List aH) , bZ C (R l) (⟨dst, .ie f cs, none⟩ :: os) (some a) K = dg C l (use (R l) (.ie f cs)) (cY (R l) (.ie f cs)) dst os a K (some (.fn f (hC (R l) cs), R l))) ∧
  (∀ (T : TypeId) (x y : aH) , bZ C (R l) (⟨dst, .fE T x y, none⟩ :: os) (some a) K = dg C l (use (R l) (.fE T x y)) (cY (R l) (.fE T x y)) dst os a K (cV (R l) (fE C T (aI (R l) x) (aI (R l) y)))) ∧
  (∀ (T : TypeId) (x : aH) (cW au : Option aH) , bZ C (R l) (⟨dst, .eb T x cW au, none⟩ :: os) (some a) K = dg C l (use (R l) (.eb T x cW au)) (cY (R l) (.eb T x cW au)) dst os a K (eb C (R l) T (aI (R l) x) (kB (R l) cW) (kB (R l) au))) ∧
  (∀ (T : TypeId) (x : aH) (k : Nat) , bZ C (R l) (⟨dst, .a5 T x k, none⟩ :: os) (some a) K = dg C l (use (R l) (.a5 T x k)) (cY (R l) (.a5 T x k)) dst os a K (cV (R l) (a5 C (R l) T (aI (R l) x) k))) ∧
  (∀ (T : TypeId) (x y : aH) , bZ C (R l) (⟨dst, .cf T x y, none⟩ :: os) (some a) K = dg C l (use (R l) (.cf T x y)) (cY (R l) (.cf T x y)) dst os a K (cV (R l) (cf C (R l) T (aI (R l) x) (aI (R l) y)))) ∧
  (∀ (T : TypeId) (x y : aH) , bZ C (R l) (⟨dst, .idx T x y, none⟩ :: os) (some a) K = dg C l (use (R l) (.idx T x y)) (cY (R l) (.idx T x y)) dst os a K (cV (R l) (idx C T (aI (R l) x) (aI (R l) y)))) ∧
  (∀ (x : aH) (k : Nat) , bZ C (R l) (⟨dst, .ex x k, none⟩ :: os) (some a) K = dg C l (use (R l) (.ex x k)) (cY (R l) (.ex x k)) dst os a K (cV (R l) (ex (R l) (aI (R l) x) k))) ∧
  (∀ (T : TypeId) (x : aH) , bZ C (R l) (⟨dst, .len T x, none⟩ :: os) (some a) K = dg C l (use (R l) (.len T x)) (cY (R l) (.len T x)) dst os a K (cV (R l) (ld C (R l) T (aI (R l) x)))) ∧
  (∀ (T bJ : TypeId) (x y : aH) , bZ C (R l) (⟨dst, .app T bJ x y, none⟩ :: os) (some a) K = dg C l (use (R l) (.app T bJ x y)) (cY (R l) (.app T bJ x y)) dst os a K (lg C (R l) T bJ (aI (R l) x) (aI (R l) y))) :=
 ⟨fun x => (hZ rfl).trans (congrArg _ (sH x)), fun x => (hZ rfl).trans (congrArg _ (sI x)), fun c x y => (hZ rfl).trans (congrArg _ (sJ c x y)), fun T => (hZ rfl).trans (congrArg _ (sK T)), fun T x => (hZ rfl).trans (congrArg _ (sL T x)), fun T ps => (hZ rfl).trans (congrArg _ (sM T ps)), fun T n ps => (hZ rfl).trans (congrArg _ (oO T n ps)), fun T x => (hZ rfl).trans (congrArg _ (sN T x)), fun T x y => (hZ rfl).trans (congrArg _ (sO T x y)), fun x => (hZ rfl).trans (congrArg _ (sP x)), fun op T x y => (hZ rfl).trans (congrArg _ (sQ op T x y)), fun op x => (hZ rfl).trans (congrArg _ (sR op x)), fun A B x => (hZ rfl).trans (congrArg _ (sS A B x)), fun f cs => (hZ rfl).trans (congrArg _ (sT f cs)), fun T x y => (hZ rfl).trans (congrArg _ (sU T x y)), fun T x cW au => (hZ rfl).trans (congrArg _ (sV T x cW au)), fun T x k => (hZ rfl).trans (congrArg _ (sW T x k)), fun T x y => (hZ rfl).trans (congrArg _ (sX T x y)), fun T x y => (hZ rfl).trans (congrArg _ (sY T x y)), fun x k => (hZ rfl).trans (congrArg _ (sZ x k)), fun T x => (hZ rfl).trans (congrArg _ (s0 T x)), fun T bJ x y => (hZ rfl).trans (congrArg _ (s3 T bJ x y))⟩
theorem OJ :
  (∀ (x : aH) (t : Nat), cg C l dst (.ae x) t true os none K (.bool true) = da C dst os K (some (aI (R l) x, R l))) ∧
  (∀ (x : aH) (t : Nat), cg C l dst (.ae x) t false os none K (.bool false) = da C dst os K (some (aI (R l) x, R l))) ∧
  (∀ (x : aH) (t : Nat), cg C l dst (.an x) t true os none K (.bool true) = da C dst os K (hB (R l) (aI (R l) x))) ∧
  (∀ (x : aH) (t : Nat), cg C l dst (.an x) t false os none K (.bool false) = da C dst os K (hB (R l) (aI (R l) x))) ∧
  (∀ (c x y : aH) (t : Nat), cg C l dst (.pick c x y) t true os none K (.bool true) = da C dst os K (pG (R l) (aI (R l) c) (aI (R l) x) (aI (R l) y))) ∧
  (∀ (c x y : aH) (t : Nat), cg C l dst (.pick c x y) t false os none K (.bool false) = da C dst os K (pG (R l) (aI (R l) c) (aI (R l) x) (aI (R l) y))) ∧
  (∀ (T : TypeId) (t : Nat), cg C l dst (.dH T) t true os none K (.bool true) = da C dst os K (cV (R l) (dH C T))) ∧
  (∀ (T : TypeId) (t : Nat), cg C l dst (.dH T) t false os none K (.bool false) = da C dst os K (cV (R l) (dH C T))) ∧
  (∀ (T : TypeId) (x : aH) (t : Nat), cg C l dst (.dk T x) t true os none K (.bool true) = da C dst os K (dk (R l) (aI (R l) x))) ∧
  (∀ (T : TypeId) (x : aH) (t : Nat), cg C l dst (.dk T x) t false os none K (.bool false) = da C dst os K (dk (R l) (aI (R l) x))) ∧
  (∀ (T : TypeId) (ps : List (Nat × aH)) (t : Nat), cg C l dst (.ed T ps) t true os none K (.bool true) = da C dst os K (ed C (R l) T (jK (R l) ps))) ∧
  (∀ (T : TypeId) (ps : List (Nat × aH)) (t : Nat), cg C l dst (.ed T ps) t false os none K (.bool false) = da C dst os K (ed C (R l) T (jK (R l) ps))) ∧
  (∀ (T : TypeId) (n : Nat) (ps : List (Nat × aH)) (t : Nat), cg C l dst (.cE T n ps) t true os none K (.bool true) = da C dst os K (cE C (R l) T n (jK (R l) ps))) ∧
  (∀ (T : TypeId) (n : Nat) (ps : List (Nat × aH)) (t : Nat), cg C l dst (.cE T n ps) t false os none K (.bool false) = da C dst os K (cE C (R l) T n (jK (R l) ps))) ∧
  (∀ (T : TypeId) (x : aH) (t : Nat), cg C l dst (.aN T x) t true os none K (.bool true) = da C dst os K (cV (R l) (aN C (R l) T (aI (R l) x)))) ∧
  (∀ (T : TypeId) (x : aH) (t : Nat), cg C l dst (.aN T x) t false os none K (.bool false) = da C dst os K (cV (R l) (aN C (R l) T (aI (R l) x)))) ∧
  (∀ (T : TypeId) (x y : aH) (t : Nat), cg C l dst (.ck T x y) t true os none K (.bool true) = da C dst os K (fW (ck C (R l) T (aI (R l) x) (aI (R l) y)))) ∧
  (∀ (T : TypeId) (x y : aH) (t : Nat), cg C l dst (.ck T x y) t false os none K (.bool false) = da C dst os K (fW (ck C (R l) T (aI (R l) x) (aI (R l) y)))) ∧
  (∀ (x : aH) (t : Nat), cg C l dst (.c1 x) t true os none K (.bool true) = da C dst os K (cV (R l) (c1 (R l) (aI (R l) x)))) ∧
  (∀ (x : aH) (t : Nat), cg C l dst (.c1 x) t false os none K (.bool false) = da C dst os K (cV (R l) (c1 (R l) (aI (R l) x)))) ∧
  (∀ (op : BinOp) (T : TypeId) (x y : aH) (t : Nat), cg C l dst (.aP op T x y) t true os none K (.bool true) = da C dst os K (cV (R l) (aP C (R l) op T (aI (R l) x) (aI (R l) y)))) ∧
  (∀ (op : BinOp) (T : TypeId) (x y : aH) (t : Nat), cg C l dst (.aP op T x y) t false os none K (.bool false) = da C dst os K (cV (R l) (aP C (R l) op T (aI (R l) x) (aI (R l) y)))) ∧
  (∀ (op : UnOp) (x : aH) (t : Nat), cg C l dst (.un op x) t true os none K (.bool true) = da C dst os K (cV (R l) (un op (aI (R l) x)))) ∧
  (∀ (op : UnOp) (x : aH) (t : Nat), cg C l dst (.un op x) t false os none K (.bool false) = da C dst os K (cV (R l) (un op (aI (R l) x)))) ∧
  (∀ (A B : TypeId) (x : aH) (t : Nat), cg C l dst (.fo A B x) t true os none K (.bool true) = da C dst os K (cV (R l) (fo C (R l) A B (aI (R l) x)))) ∧
  (∀ (A B : TypeId) (x : aH) (t : Nat), cg C l dst (.fo A B x) t false os none K (.bool false) = da C dst os K (cV (R l) (fo C (R l) A B (aI (R l) x)))) ∧
  (∀ (f : FuncId) (cs : List aH) (t : Nat), cg C l dst (.ie f cs) t true os none K (.bool true) = da C dst os K (some (.fn f (hC (R l) cs), R l))) ∧
  (∀ (f : FuncId) (cs : List aH) (t : Nat), cg C l dst (.ie f cs) t false os none K (.bool false) = da C dst os K (some (.fn f (hC (R l) cs), R l))) ∧
  (∀ (T : TypeId) (x y : aH) (t : Nat), cg C l dst (.fE T x y) t true os none K (.bool true) = da C dst os K (cV (R l) (fE C T (aI (R l) x) (aI (R l) y)))) ∧
  (∀ (T : TypeId) (x y : aH) (t : Nat), cg C l dst (.fE T x y) t false os none K (.bool false) = da C dst os K (cV (R l) (fE C T (aI (R l) x) (aI (R l) y)))) ∧
  (∀ (T : TypeId) (x : aH) (cW au : Option aH) (t : Nat), cg C l dst (.eb T x cW au) t true os none K (.bool true) = da C dst os K (eb C (R l) T (aI (R l) x) (kB (R l) cW) (kB (R l) au))) ∧
  (∀ (T : TypeId) (x : aH) (cW au : Option aH) (t : Nat), cg C l dst (.eb T x cW au) t false os none K (.bool false) = da C dst os K (eb C (R l) T (aI (R l) x) (kB (R l) cW) (kB (R l) au))) ∧
  (∀ (T : TypeId) (x : aH) (k : Nat) (t : Nat), cg C l dst (.a5 T x k) t true os none K (.bool true) = da C dst os K (cV (R l) (a5 C (R l) T (aI (R l) x) k))) ∧
  (∀ (T : TypeId) (x : aH) (k : Nat) (t : Nat), cg C l dst (.a5 T x k) t false os none K (.bool false) = da C dst os K (cV (R l) (a5 C (R l) T (aI (R l) x) k))) ∧
  (∀ (T : TypeId) (x y : aH) (t : Nat), cg C l dst (.cf T x y) t true os none K (.bool true) = da C dst os K (cV (R l) (cf C (R l) T (aI (R l) x) (aI (R l) y)))) ∧
  (∀ (T : TypeId) (x y : aH) (t : Nat), cg C l dst (.cf T x y) t false os none K (.bool false) = da C dst os K (cV (R l) (cf C (R l) T (aI (R l) x) (aI (R l) y)))) ∧
  (∀ (T : TypeId) (x y : aH) (t : Nat), cg C l dst (.idx T x y) t true os none K (.bool true) = da C dst os K (cV (R l) (idx C T (aI (R l) x) (aI (R l) y)))) ∧
  (∀ (T : TypeId) (x y : aH) (t : Nat), cg C l dst (.idx T x y) t false os none K (.bool false) = da C dst os K (cV (R l) (idx C T (aI (R l) x) (aI (R l) y)))) ∧
  (∀ (x : aH) (k : Nat) (t : Nat), cg C l dst (.ex x k) t true os none K (.bool true) = da C dst os K (cV (R l) (ex (R l) (aI (R l) x) k))) ∧
  (∀ (x : aH) (k : Nat) (t : Nat), cg C l dst (.ex x k) t false os none K (.bool false) = da C dst os K (cV (R l) (ex (R l) (aI (R l) x) k))) ∧
  (∀ (T : TypeId) (x : aH) (t : Nat), cg C l dst (.len T x) t true os none K (.bool true) = da C dst os K (cV (R l) (ld C (R l) T (aI (R l) x)))) ∧
  (∀ (T : TypeId) (x : aH) (t : Nat), cg C l dst (.len T x) t false os none K (.bool false) = da C dst os K (cV (R l) (ld C (R l) T (aI (R l) x)))) ∧
  (∀ (T bJ : TypeId) (x y : aH) (t : Nat), cg C l dst (.app T bJ x y) t true os none K (.bool true) = da C dst os K (lg C (R l) T bJ (aI (R l) x) (aI (R l) y))) ∧
  (∀ (T bJ : TypeId) (x y : aH) (t : Nat), cg C l dst (.app T bJ x y) t false os none K (.bool false) = da C dst os K (lg C (R l) T bJ (aI (R l) x) (aI (R l) y))) :=
 ⟨fun x _ => (fa rfl).trans (congrArg _ (sH x)), fun x _ => (fa rfl).trans (congrArg _ (sH x)), fun x _ => (fa rfl).trans (congrArg _ (sI x)), fun x _ => (fa rfl).trans (congrArg _ (sI x)), fun c x y _ => (fa rfl).trans (congrArg _ (sJ c x y)), fun c x y _ => (fa rfl).trans (congrArg _ (sJ c x y)), fun T _ => (fa rfl).trans (congrArg _ (sK T)), fun T _ => (fa rfl).trans (congrArg _ (sK T)), fun T x _ => (fa rfl).trans (congrArg _ (sL T x)), fun T x _ => (fa rfl).trans (congrArg _ (sL T x)), fun T ps _ => (fa rfl).trans (congrArg _ (sM T ps)), fun T ps _ => (fa rfl).trans (congrArg _ (sM T ps)), fun T n ps _ => (fa rfl).trans (congrArg _ (oO T n ps)), fun T n ps _ => (fa rfl).trans (congrArg _ (oO T n ps)), fun T x _ => (fa rfl).trans (congrArg _ (sN T x)), fun T x _ => (fa rfl).trans (congrArg _ (sN T x)), fun T x y _ => (fa rfl).trans (congrArg _ (sO T x y)), fun T x y _ => (fa rfl).trans (congrArg _ (sO T x y)), fun x _ => (fa rfl).trans (congrArg _ (sP x)), fun x _ => (fa rfl).trans (congrArg _ (sP x)), fun op T x y _ => (fa rfl).trans (congrArg _ (sQ op T x y)), fun op T x y _ => (fa rfl).trans (congrArg _ (sQ op T x y)), fun op x _ => (fa rfl).trans (congrArg _ (sR op x)), fun op x _ => (fa rfl).trans (congrArg _ (sR op x)), fun A B x _ => (fa rfl).trans (congrArg _ (sS A B x)), fun A B x _ => (fa rfl).trans (congrArg _ (sS A B x)), fun f cs _ => (fa rfl).trans (congrArg _ (sT f cs)), fun f cs _ => (fa rfl).trans (congrArg _ (sT f cs)), fun T x y _ => (fa rfl).trans (congrArg _ (sU T x y)), fun T x y _ => (fa rfl).trans (congrArg _ (sU T x y)), fun T x cW au _ => (fa rfl).trans (congrArg _ (sV T x cW au)), fun T x cW au _ => (fa rfl).trans (congrArg _ (sV T x cW au)), fun T x k _ => (fa rfl).trans (congrArg _ (sW T x k)), fun T x k _ => (fa rfl).trans (congrArg _ (sW T x k)), fun T x y _ => (fa rfl).trans (congrArg _ (sX T x y)), fun T x y _ => (fa rfl).trans (congrArg _ (sX T x y)), fun T x y _ => (fa rfl).trans (congrArg _ (sY T x y)), fun T x y _ => (fa rfl).trans (congrArg _ (sY T x y)), fun x k _ => (fa rfl).trans (congrArg _ (sZ x k)), fun x k _ => (fa rfl).trans (congrArg _ (sZ x k)), fun T x _ => (fa rfl).trans (congrArg _ (s0 T x)), fun T x _ => (fa rfl).trans (congrArg _ (s0 T x)), fun T bJ x y _ => (fa rfl).trans (congrArg _ (s3 T bJ x y)), fun T bJ x y _ => (fa rfl).trans (congrArg _ (s3 T bJ x y))⟩
theorem OK :
  (∀ (x : aH) (t : Nat), cg C l dst (.ae x) t true os (some a) K (.bool true) = dg C l (t :: use (R l) (.ae x)) (cY (R l) (.ae x)) dst os a K (some (aI (R l) x, R l))) ∧
  (∀ (x : aH) (t : Nat), cg C l dst (.ae x) t false os (some a) K (.bool false) = dg C l (t :: use (R l) (.ae x)) (cY (R l) (.ae x)) dst os a K (some (aI (R l) x, R l))) ∧
  (∀ (x : aH) (t : Nat), cg C l dst (.an x) t true os (some a) K (.bool true) = dg C l (t :: use (R l) (.an x)) (cY (R l) (.an x)) dst os a K (hB (R l) (aI (R l) x))) ∧
  (∀ (x : aH) (t : Nat), cg C l dst (.an x) t false os (some a) K (.bool false) = dg C l (t :: use (R l) (.an x)) (cY (R l) (.an x)) dst os a K (hB (R l) (aI (R l) x))) ∧
  (∀ (c x y : aH) (t : Nat), cg C l dst (.pick c x y) t true os (some a) K (.bool true) = dg C l (t :: use (R l) (.pick c x y)) (cY (R l) (.pick c x y)) dst os a K (pG (R l) (aI (R l) c) (aI (R l) x) (aI (R l) y))) ∧
  (∀ (c x y : aH) (t : Nat), cg C l dst (.pick c x y) t false os (some a) K (.bool false) = dg C l (t :: use (R l) (.pick c x y)) (cY (R l) (.pick c x y)) dst os a K (pG (R l) (aI (R l) c) (aI (R l) x) (aI (R l) y))) ∧
  (∀ (T : TypeId) (t : Nat), cg C l dst (.dH T) t true os (some a) K (.bool true) = dg C l (t :: use (R l) (.dH T)) (cY (R l) (.dH T)) dst os a K (cV (R l) (dH C T))) ∧
  (∀ (T : TypeId) (t : Nat), cg C l dst (.dH T) t false os (some a) K (.bool false) = dg C l (t :: use (R l) (.dH T)) (cY (R l) (.dH T)) dst os a K (cV (R l) (dH C T))) ∧
  (∀ (T : TypeId) (x : aH) (t : Nat), cg C l dst (.dk T x) t true os (some a) K (.bool true) = dg C l (t :: use (R l) (.dk T x)) (cY (R l) (.dk T x)) dst os a K (dk (R l) (aI (R l) x))) ∧
  (∀ (T : TypeId) (x : aH) (t : Nat), cg C l dst (.dk T x) t false os (some a) K (.bool false) = dg C l (t :: use (R l) (.dk T x)) (cY (R l) (.dk T x)) dst os a K (dk (R l) (aI (R l) x))) ∧
  (∀ (T : TypeId) (ps : List (Nat × aH)) (t : Nat), cg C l dst (.ed T ps) t true os (some a) K (.bool true) = dg C l (t :: use (R l) (.ed T ps)) (cY (R l) (.ed T ps)) dst os a K (ed C (R l) T (jK (R l) ps))) ∧
  (∀ (T : TypeId) (ps : List (Nat × aH)) (t : Nat), cg C l dst (.ed T ps) t false os (some a) K (.bool false) = dg C l (t :: use (R l) (.ed T ps)) (cY (R l) (.ed T ps)) dst os a K (ed C (R l) T (jK (R l) ps))) ∧
  (∀ (T : TypeId) (n : Nat) (ps : List (Nat × aH)) (t : Nat), cg C l dst (.cE T n ps) t true os (some a) K (.bool true) = dg C l (t :: use (R l) (.cE T n ps)) (cY (R l) (.cE T n ps)) dst os a K (cE C (R l) T n (jK (R l) ps))) ∧
  (∀ (T : TypeId) (n : Nat) (ps : List (Nat × aH)) (t : Nat), cg C l dst (.cE T n ps) t false os (some a) K (.bool false) = dg C l (t :: use (R l) (.cE T n ps)) (cY (R l) (.cE T n ps)) dst os a K (cE C (R l) T n (jK (R l) ps))) ∧
  (∀ (T : TypeId) (x : aH) (t : Nat), cg C l dst (.aN T x) t true os (some a) K (.bool true) = dg C l (t :: use (R l) (.aN T x)) (cY (R l) (.aN T x)) dst os a K (cV (R l) (aN C (R l) T (aI (R l) x)))) ∧
  (∀ (T : TypeId) (x : aH) (t : Nat), cg C l dst (.aN T x) t false os (some a) K (.bool false) = dg C l (t :: use (R l) (.aN T x)) (cY (R l) (.aN T x)) dst os a K (cV (R l) (aN C (R l) T (aI (R l) x)))) ∧
  (∀ (T : TypeId) (x y : aH) (t : Nat), cg C l dst (.ck T x y) t true os (some a) K (.bool true) = dg C l (t :: use (R l) (.ck T x y)) (cY (R l) (.ck T x y)) dst os a K (fW (ck C (R l) T (aI (R l) x) (aI (R l) y)))) ∧
  (∀ (T : TypeId) (x y : aH) (t : Nat), cg C l dst (.ck T x y) t false os (some a) K (.bool false) = dg C l (t :: use (R l) (.ck T x y)) (cY (R l) (.ck T x y)) dst os a K (fW (ck C (R l) T (aI (R l) x) (aI (R l) y)))) ∧
  (∀ (x : aH) (t : Nat), cg C l dst (.c1 x) t true os (some a) K (.bool true) = dg C l (t :: use (R l) (.c1 x)) (cY (R l) (.c1 x)) dst os a K (cV (R l) (c1 (R l) (aI (R l) x)))) ∧
  (∀ (x : aH) (t : Nat), cg C l dst (.c1 x) t false os (some a) K (.bool false) = dg C l (t :: use (R l) (.c1 x)) (cY (R l) (.c1 x)) dst os a K (cV (R l) (c1 (R l) (aI (R l) x)))) ∧
  (∀ (op : BinOp) (T : TypeId) (x y : aH) (t : Nat), cg C l dst (.aP op T x y) t true os (some a) K (.bool true) = dg C l (t :: use (R l) (.aP op T x y)) (cY (R l) (.aP op T x y)) dst os a K (cV (R l) (aP C (R l) op T (aI (R l) x) (aI (R l) y)))) ∧
  (∀ (op : BinOp) (T : TypeId) (x y : aH) (t : Nat), cg C l dst (.aP op T x y) t false os (some a) K (.bool false) = dg C l (t :: use (R l) (.aP op T x y)) (cY (R l) (.aP op T x y)) dst os a K (cV (R l) (aP C (R l) op T (aI (R l) x) (aI (R l) y)))) ∧
  (∀ (op : UnOp) (x : aH) (t : Nat), cg C l dst (.un op x) t true os (some a) K (.bool true) = dg C l (t :: use (R l) (.un op x)) (cY (R l) (.un op x)) dst os a K (cV (R l) (un op (aI (R l) x)))) ∧
  (∀ (op : UnOp) (x : aH) (t : Nat), cg C l dst (.un op x) t false os (some a) K (.bool false) = dg C l (t :: use (R l) (.un op x)) (cY (R l) (.un op x)) dst os a K (cV (R l) (un op (aI (R l) x)))) ∧
  (∀ (A B : TypeId) (x : aH) (t : Nat), cg C l dst (.fo A B x) t true os (some a) K (.bool true) = dg C l (t :: use (R l) (.fo A B x)) (cY (R l) (.fo A B x)) dst os a K (cV (R l) (fo C (R l) A B (aI (R l) x)))) ∧
  (∀ (A B : TypeId) (x : aH) (t : Nat), cg C l dst (.fo A B x) t false os (some a) K (.bool false) = dg C l (t :: use (R l) (.fo A B x)) (cY (R l) (.fo A B x)) dst os a K (cV (R l) (fo C (R l) A B (aI (R l) x)))) ∧
  (∀ (f : FuncId) (cs : List aH) (t : Nat), cg C l dst (.ie f cs) t true os (some a) K (.bool true) = dg C l (t :: use (R l) (.ie f cs)) (cY (R l) (.ie f cs)) dst os a K (some (.fn f (hC (R l) cs), R l))) ∧
  (∀ (f : FuncId) (cs : List aH) (t : Nat), cg C l dst (.ie f cs) t false os (some a) K (.bool false) = dg C l (t :: use (R l) (.ie f cs)) (cY (R l) (.ie f cs)) dst os a K (some (.fn f (hC (R l) cs), R l))) ∧
  (∀ (T : TypeId) (x y : aH) (t : Nat), cg C l dst (.fE T x y) t true os (some a) K (.bool true) = dg C l (t :: use (R l) (.fE T x y)) (cY (R l) (.fE T x y)) dst os a K (cV (R l) (fE C T (aI (R l) x) (aI (R l) y)))) ∧
  (∀ (T : TypeId) (x y : aH) (t : Nat), cg C l dst (.fE T x y) t false os (some a) K (.bool false) = dg C l (t :: use (R l) (.fE T x y)) (cY (R l) (.fE T x y)) dst os a K (cV (R l) (fE C T (aI (R l) x) (aI (R l) y)))) ∧
  (∀ (T : TypeId) (x : aH) (cW au : Option aH) (t : Nat), cg C l dst (.eb T x cW au) t true os (some a) K (.bool true) = dg C l (t :: use (R l) (.eb T x cW au)) (cY (R l) (.eb T x cW au)) dst os a K (eb C (R l) T (aI (R l) x) (kB (R l) cW) (kB (R l) au))) ∧
  (∀ (T : TypeId) (x : aH) (cW au : Option aH) (t : Nat), cg C l dst (.eb T x cW au) t false os (some a) K (.bool false) = dg C l (t :: use (R l) (.eb T x cW au)) (cY (R l) (.eb T x cW au)) dst os a K (eb C (R l) T (aI (R l) x) (kB (R l) cW) (kB (R l) au))) ∧
  (∀ (T : TypeId) (x : aH) (k : Nat) (t : Nat), cg C l dst (.a5 T x k) t true os (some a) K (.bool true) = dg C l (t :: use (R l) (.a5 T x k)) (cY (R l) (.a5 T x k)) dst os a K (cV (R l) (a5 C (R l) T (aI (R l) x) k))) ∧
  (∀ (T : TypeId) (x : aH) (k : Nat) (t : Nat), cg C l dst (.a5 T x k) t false os (some a) K (.bool false) = dg C l (t :: use (R l) (.a5 T x k)) (cY (R l) (.a5 T x k)) dst os a K (cV (R l) (a5 C (R l) T (aI (R l) x) k))) ∧
  (∀ (T : TypeId) (x y : aH) (t : Nat), cg C l dst (.cf T x y) t true os (some a) K (.bool true) = dg C l (t :: use (R l) (.cf T x y)) (cY (R l) (.cf T x y)) dst os a K (cV (R l) (cf C (R l) T (aI (R l) x) (aI (R l) y)))) ∧
  (∀ (T : TypeId) (x y : aH) (t : Nat), cg C l dst (.cf T x y) t false os (some a) K (.bool false) = dg C l (t :: use (R l) (.cf T x y)) (cY (R l) (.cf T x y)) dst os a K (cV (R l) (cf C (R l) T (aI (R l) x) (aI (R l) y)))) ∧
  (∀ (T : TypeId) (x y : aH) (t : Nat), cg C l dst (.idx T x y) t true os (some a) K (.bool true) = dg C l (t :: use (R l) (.idx T x y)) (cY (R l) (.idx T x y)) dst os a K (cV (R l) (idx C T (aI (R l) x) (aI (R l) y)))) ∧
  (∀ (T : TypeId) (x y : aH) (t : Nat), cg C l dst (.idx T x y) t false os (some a) K (.bool false) = dg C l (t :: use (R l) (.idx T x y)) (cY (R l) (.idx T x y)) dst os a K (cV (R l) (idx C T (aI (R l) x) (aI (R l) y)))) ∧
  (∀ (x : aH) (k : Nat) (t : Nat), cg C l dst (.ex x k) t true os (some a) K (.bool true) = dg C l (t :: use (R l) (.ex x k)) (cY (R l) (.ex x k)) dst os a K (cV (R l) (ex (R l) (aI (R l) x) k))) ∧
  (∀ (x : aH) (k : Nat) (t : Nat), cg C l dst (.ex x k) t false os (some a) K (.bool false) = dg C l (t :: use (R l) (.ex x k)) (cY (R l) (.ex x k)) dst os a K (cV (R l) (ex (R l) (aI (R l) x) k))) ∧
  (∀ (T : TypeId) (x : aH) (t : Nat), cg C l dst (.len T x) t true os (some a) K (.bool true) = dg C l (t :: use (R l) (.len T x)) (cY (R l) (.len T x)) dst os a K (cV (R l) (ld C (R l) T (aI (R l) x)))) ∧
  (∀ (T : TypeId) (x : aH) (t : Nat), cg C l dst (.len T x) t false os (some a) K (.bool false) = dg C l (t :: use (R l) (.len T x)) (cY (R l) (.len T x)) dst os a K (cV (R l) (ld C (R l) T (aI (R l) x)))) ∧
  (∀ (T bJ : TypeId) (x y : aH) (t : Nat), cg C l dst (.app T bJ x y) t true os (some a) K (.bool true) = dg C l (t :: use (R l) (.app T bJ x y)) (cY (R l) (.app T bJ x y)) dst os a K (lg C (R l) T bJ (aI (R l) x) (aI (R l) y))) ∧
  (∀ (T bJ : TypeId) (x y : aH) (t : Nat), cg C l dst (.app T bJ x y) t false os (some a) K (.bool false) = dg C l (t :: use (R l) (.app T bJ x y)) (cY (R l) (.app T bJ x y)) dst os a K (lg C (R l) T bJ (aI (R l) x) (aI (R l) y))) :=
 ⟨fun x _ => (fb rfl).trans (congrArg _ (sH x)), fun x _ => (fb rfl).trans (congrArg _ (sH x)), fun x _ => (fb rfl).trans (congrArg _ (sI x)), fun x _ => (fb rfl).trans (congrArg _ (sI x)), fun c x y _ => (fb rfl).trans (congrArg _ (sJ c x y)), fun c x y _ => (fb rfl).trans (congrArg _ (sJ c x y)), fun T _ => (fb rfl).trans (congrArg _ (sK T)), fun T _ => (fb rfl).trans (congrArg _ (sK T)), fun T x _ => (fb rfl).trans (congrArg _ (sL T x)), fun T x _ => (fb rfl).trans (congrArg _ (sL T x)), fun T ps _ => (fb rfl).trans (congrArg _ (sM T ps)), fun T ps _ => (fb rfl).trans (congrArg _ (sM T ps)), fun T n ps _ => (fb rfl).trans (congrArg _ (oO T n ps)), fun T n ps _ => (fb rfl).trans (congrArg _ (oO T n ps)), fun T x _ => (fb rfl).trans (congrArg _ (sN T x)), fun T x _ => (fb rfl).trans (congrArg _ (sN T x)), fun T x y _ => (fb rfl).trans (congrArg _ (sO T x y)), fun T x y _ => (fb rfl).trans (congrArg _ (sO T x y)), fun x _ => (fb rfl).trans (congrArg _ (sP x)), fun x _ => (fb rfl).trans (congrArg _ (sP x)), fun op T x y _ => (fb rfl).trans (congrArg _ (sQ op T x y)), fun op T x y _ => (fb rfl).trans (congrArg _ (sQ op T x y)), fun op x _ => (fb rfl).trans (congrArg _ (sR op x)), fun op x _ => (fb rfl).trans (congrArg _ (sR op x)), fun A B x _ => (fb rfl).trans (congrArg _ (sS A B x)), fun A B x _ => (fb rfl).trans (congrArg _ (sS A B x)), fun f cs _ => (fb rfl).trans (congrArg _ (sT f cs)), fun f cs _ => (fb rfl).trans (congrArg _ (sT f cs)), fun T x y _ => (fb rfl).trans (congrArg _ (sU T x y)), fun T x y _ => (fb rfl).trans (congrArg _ (sU T x y)), fun T x cW au _ => (fb rfl).trans (congrArg _ (sV T x cW au)), fun T x cW au _ => (fb rfl).trans (congrArg _ (sV T x cW au)), fun T x k _ => (fb rfl).trans (congrArg _ (sW T x k)), fun T x k _ => (fb rfl).trans (congrArg _ (sW T x k)), fun T x y _ => (fb rfl).trans (congrArg _ (sX T x y)), fun T x y _ => (fb rfl).trans (congrArg _ (sX T x y)), fun T x y _ => (fb rfl).trans (congrArg _ (sY T x y)), fun T x y _ => (fb rfl).trans (congrArg _ (sY T x y)), fun x k _ => (fb rfl).trans (congrArg _ (sZ x k)), fun x k _ => (fb rfl).trans (congrArg _ (sZ x k)), fun T x _ => (fb rfl).trans (congrArg _ (s0 T x)), fun T x _ => (fb rfl).trans (congrArg _ (s0 T x)), fun T bJ x y _ => (fb rfl).trans (congrArg _ (s3 T bJ x y)), fun T bJ x y _ => (fb rfl).trans (congrArg _ (s3 T bJ x y))⟩
end
theorem F4 :
  (∀ (t : Nat) (k : IntKind) (n : Int), iG t (.int k n) = (.int k n)) ∧
  (∀ (t : Nat) (b : Bool), iG t (.bool b) = (.bool b)) ∧
  (∀ (t : Nat) (x : List UInt8), iG t (.str x) = (.str x)) ∧
  (∀ (t : Nat) (xs : List j), iG t (.slice xs) = (.slice xs)) ∧
  (∀ (t : Nat) (d : j), iG t (.ref d) = (.ref d)) ∧
  (∀ (t : Nat) (f : FuncId) (cap : List j), iG t (.fn f cap) = (.fn f cap)) ∧
  (∀ (t : Nat) (x : Nat) (q : List Nat), iG t (.h x q) = (.h x q)) ∧
  (∀ (t : Nat) (x : Nat) (q : List Nat), iG t (.ay x q) = (.ay x q)) ∧
  (∀ (t : Nat) , iG t .dj = .dj) ∧
  (∀ (t : Nat) , iG t .af = .af) ∧
  (∀ (t : Nat) , iG t .eo = .eo) ∧
  (∀ (t : Nat) , iG t .hole = .hole) ∧
  (∀ (t : Nat) (sz : Nat) (xs : List j), iG t (.ai sz xs) = .h t []) ∧
  (∀ (t : Nat) (d : j), iG t (.aG d) = .h t []) ∧
  (∀ (t : Nat) (ar : List j), iG t (.agg ar) = if j.d_ ar = true then (.agg ar) else .h t []) ∧
  (∀ (t : Nat) (ar : List j), iG t (.tuple ar) = if j.d_ ar = true then (.tuple ar) else .h t []) :=
 ⟨fun _ _ _ => rfl, fun _ _ => rfl, fun _ _ => rfl, fun _ _ => rfl, fun _ _ => rfl, fun _ _ _ => rfl, fun _ _ _ => rfl, fun _ _ _ => rfl, fun _  => rfl, fun _  => rfl, fun _  => rfl, fun _  => rfl, fun _ _ _ => rfl, fun _ _ => rfl, fun _ _ => rfl, fun _ _ => rfl⟩
theorem F5 :
  (∀ (l : List (Nat × j)) (av : j), fin (R l) none av = R l) ∧
  (∀ (l : List (Nat × j)) (t : Nat) (k : IntKind) (n : Int), fin (R l) (some t) (.int k n) = R ((t, (.int k n)) :: l)) ∧
  (∀ (l : List (Nat × j)) (t : Nat) (b : Bool), fin (R l) (some t) (.bool b) = R ((t, (.bool b)) :: l)) ∧
  (∀ (l : List (Nat × j)) (t : Nat) (x : List UInt8), fin (R l) (some t) (.str x) = R ((t, (.str x)) :: l)) ∧
  (∀ (l : List (Nat × j)) (t : Nat) (xs : List j), fin (R l) (some t) (.slice xs) = R ((t, (.slice xs)) :: l)) ∧
  (∀ (l : List (Nat × j)) (t : Nat) (d : j), fin (R l) (some t) (.ref d) = R ((t, (.ref d)) :: l)) ∧
  (∀ (l : List (Nat × j)) (t : Nat) (f : FuncId) (cap : List j), fin (R l) (some t) (.fn f cap) = R ((t, (.fn f cap)) :: l)) ∧
  (∀ (l : List (Nat × j)) (t : Nat) (x : Nat) (q : List Nat), fin (R l) (some t) (.h x q) = R ((t, (.h x q)) :: l)) ∧
  (∀ (l : List (Nat × j)) (t : Nat) (x : Nat) (q : List Nat), fin (R l) (some t) (.ay x q) = R ((t, (.ay x q)) :: l)) ∧
  (∀ (l : List (Nat × j)) (t : Nat) , fin (R l) (some t) .dj = R ((t, .dj) :: l)) ∧
  (∀ (l : List (Nat × j)) (t : Nat) , fin (R l) (some t) .af = R ((t, .af) :: l)) ∧
  (∀ (l : List (Nat × j)) (t : Nat) , fin (R l) (some t) .eo = R ((t, .eo) :: l)) ∧
  (∀ (l : List (Nat × j)) (t : Nat) , fin (R l) (some t) .hole = R ((t, .hole) :: l)) ∧
  (∀ (l : List (Nat × j)) (t : Nat) (sz : Nat) (xs : List j), fin (R l) (some t) (.ai sz xs) = R ((t, (.ai sz xs)) :: nt t l)) ∧
  (∀ (l : List (Nat × j)) (t : Nat) (d : j), fin (R l) (some t) (.aG d) = R ((t, (.aG d)) :: nt t l)) ∧
  (∀ (l : List (Nat × j)) (t : Nat) (ar : List j), fin (R l) (some t) (.agg ar) = R ((t, (.agg ar)) :: if j.d_ ar = true then l else nt t l)) ∧
  (∀ (l : List (Nat × j)) (t : Nat) (ar : List j), fin (R l) (some t) (.tuple ar) = R ((t, (.tuple ar)) :: if j.d_ ar = true then l else nt t l)) :=
 ⟨fun _ _ => rfl, fun l t _ _ => by simp only [fin, j.plain, if_true, kc], fun l t _ => by simp only [fin, j.plain, if_true, kc], fun l t _ => by simp only [fin, j.plain, if_true, kc], fun l t _ => by simp only [fin, j.plain, if_true, kc], fun l t _ => by simp only [fin, j.plain, if_true, kc], fun l t _ _ => by simp only [fin, j.plain, if_true, kc], fun l t _ _ => by simp only [fin, j.plain, if_true, kc], fun l t _ _ => by simp only [fin, j.plain, if_true, kc], fun l t  => by simp only [fin, j.plain, if_true, kc], fun l t  => by simp only [fin, j.plain, if_true, kc], fun l t  => by simp only [fin, j.plain, if_true, kc], fun l t  => by simp only [fin, j.plain, if_true, kc], fun l t _ _ => by simp only [fin, j.plain, Bool.false_eq_true, if_false, uO, kc], fun l t _ => by simp only [fin, j.plain, Bool.false_eq_true, if_false, uO, kc], fun l t _ => by simp only [fin, j.plain, uO, kc]; split <;> rfl, fun l t _ => by simp only [fin, j.plain, uO, kc]; split <;> rfl⟩
theorem BG :
  (∀ (k : IntKind) (n : Int), j.plain (.int k n) = true) ∧
  (∀ (b : Bool), j.plain (.bool b) = true) ∧
  (∀ (x : List UInt8), j.plain (.str x) = true) ∧
  (∀ (xs : List j), j.plain (.slice xs) = true) ∧
  (∀ (d : j), j.plain (.ref d) = true) ∧
  (∀ (f : FuncId) (cap : List j), j.plain (.fn f cap) = true) ∧
  (∀ (x : Nat) (q : List Nat), j.plain (.h x q) = true) ∧
  (∀ (x : Nat) (q : List Nat), j.plain (.ay x q) = true) ∧
  (j.plain .dj = true) ∧
  (j.plain .af = true) ∧
  (j.plain .eo = true) ∧
  (j.plain .hole = true) ∧
  (∀ (sz : Nat) (xs : List j), j.plain (.ai sz xs) = false) ∧
  (∀ (d : j), j.plain (.aG d) = false) ∧
  (∀ (ar : List j), j.plain (.agg ar) = j.d_ ar) ∧
  (∀ (ar : List j), j.plain (.tuple ar) = j.d_ ar) ∧
  (j.d_ [] = true) ∧
  (∀ d ds, j.d_ (d :: ds) = (d.plain && j.d_ ds)) :=
 ⟨fun _ _ => rfl, fun _ => rfl, fun _ => rfl, fun _ => rfl, fun _ => rfl, fun _ _ => rfl, fun _ _ => rfl, fun _ _ => rfl, rfl, rfl, rfl, rfl, fun _ _ => rfl, fun _ => rfl, fun _ => rfl, fun _ => rfl, rfl, fun _ _ => rfl⟩
theorem F6 :
  (∀ (s : ao) (k : IntKind) (n : Int), hB s (.int k n) = some ((.int k n), s)) ∧
  (∀ (s : ao) (b : Bool), hB s (.bool b) = some ((.bool b), s)) ∧
  (∀ (s : ao) (x : List UInt8), hB s (.str x) = some ((.str x), s)) ∧
  (∀ (s : ao) (xs : List j), hB s (.slice xs) = some ((.slice xs), s)) ∧
  (∀ (s : ao) (d : j), hB s (.ref d) = some ((.ref d), s)) ∧
  (∀ (s : ao) (f : FuncId) (cap : List j), hB s (.fn f cap) = some ((.fn f cap), s)) ∧
  (∀ (s : ao) (x : Nat) (q : List Nat), hB s (.ay x q) = some ((.ay x q), s)) ∧
  (∀ (s : ao) , hB s .dj = some (.dj, s)) ∧
  (∀ (s : ao) , hB s .af = some (.af, s)) ∧
  (∀ (s : ao) , hB s .eo = some (.eo, s)) ∧
  (∀ (s : ao) , hB s .hole = some (.hole, s)) ∧
  (∀ (s : ao) (sz : Nat) (xs : List j), hB s (.ai sz xs) = some ((.ai sz xs), s)) ∧
  (∀ (s : ao) (d : j), hB s (.aG d) = some ((.aG d), s)) ∧
  (∀ (s : ao) (ar : List j), hB s (.agg ar) = some ((.agg ar), s)) ∧
  (∀ (s : ao) (ar : List j), hB s (.tuple ar) = some ((.tuple ar), s)) ∧
  (∀ (s : ao) y q, hB s (.h y q) = cG s (.h y q)) :=
 ⟨fun _ _ _ => rfl, fun _ _ => rfl, fun _ _ => rfl, fun _ _ => rfl, fun _ _ => rfl, fun _ _ _ => rfl, fun _ _ _ => rfl, fun _  => rfl, fun _  => rfl, fun _  => rfl, fun _  => rfl, fun _ _ _ => rfl, fun _ _ => rfl, fun _ _ => rfl, fun _ _ => rfl, fun _ _ _ => rfl⟩
theorem F7 :
  (∀ (t : Nat) (k : IntKind) (n : Int), cK t (.int k n) = (.int k n)) ∧
  (∀ (t : Nat) (b : Bool), cK t (.bool b) = (.bool b)) ∧
  (∀ (t : Nat) (x : List UInt8), cK t (.str x) = (.str x)) ∧
  (∀ (t : Nat) (xs : List j), cK t (.slice xs) = (.slice xs)) ∧
  (∀ (t : Nat) (d : j), cK t (.ref d) = (.ref d)) ∧
  (∀ (t : Nat) , cK t .dj = .dj) ∧
  (∀ (t : Nat) , cK t .af = .af) ∧
  (∀ (t : Nat) , cK t .eo = .eo) ∧
  (∀ (t : Nat) , cK t .hole = .hole) ∧
  (∀ (t : Nat) (sz : Nat) (xs : List j), cK t (.ai sz xs) = (.ai sz xs)) ∧
  (∀ (t : Nat) (d : j), cK t (.aG d) = (.aG d)) ∧
  (∀ (t : Nat) (ar : List j), cK t (.agg ar) = (.agg ar)) ∧
  (∀ (t : Nat) (ar : List j), cK t (.tuple ar) = (.tuple ar)) ∧
  (∀ (t y : Nat) q, cK t (.h y q) = if y = t then .hole else .h y q) ∧
  (∀ (t y : Nat) q, cK t (.ay y q) = if y = t then .hole else .ay y q) ∧
  (∀ (t : Nat) f c, cK t (.fn f c) = .fn f (iF t c)) ∧
  (∀ t, iF t [] = []) ∧
  (∀ t d ds, iF t (d :: ds) = cK t d :: iF t ds) ∧
  (∀ t, nt t [] = []) ∧
  (∀ t u d l, nt t ((u, d) :: l) = (u, cK t d) :: nt t l) ∧
  (∀ t l, k8 t (R l) = R (nt t l)) :=
 ⟨fun _ _ _ => by unfold cK; rfl, fun _ _ => by unfold cK; rfl, fun _ _ => by unfold cK; rfl, fun _ _ => by unfold cK; rfl, fun _ _ => by unfold cK; rfl, fun _  => by unfold cK; rfl, fun _  => by unfold cK; rfl, fun _  => by unfold cK; rfl, fun _  => by unfold cK; rfl, fun _ _ _ => by unfold cK; rfl, fun _ _ => by unfold cK; rfl, fun _ _ => by unfold cK; rfl, fun _ _ => by unfold cK; rfl, fun _ _ _ => by unfold cK; rfl, fun _ _ _ => by unfold cK; rfl, fun _ _ _ => by simp only [cK], fun _ => by simp only [iF], fun _ _ _ => by simp only [iF], fun _ => rfl, fun _ _ _ _ => rfl, fun t l => uO t l⟩
theorem F8 :
  (∀ (t : Nat) (k : IntKind) (n : Int), ca t (.int k n) = (.int k n)) ∧
  (∀ (t : Nat) (b : Bool), ca t (.bool b) = (.bool b)) ∧
  (∀ (t : Nat) (x : List UInt8), ca t (.str x) = (.str x)) ∧
  (∀ (t : Nat) (xs : List j), ca t (.slice xs) = (.slice xs)) ∧
  (∀ (t : Nat) (d : j), ca t (.ref d) = (.ref d)) ∧
  (∀ (t : Nat) , ca t .dj = .dj) ∧
  (∀ (t : Nat) , ca t .af = .af) ∧
  (∀ (t : Nat) , ca t .eo = .eo) ∧
  (∀ (t : Nat) , ca t .hole = .hole) ∧
  (∀ (t : Nat) (sz : Nat) (xs : List j), ca t (.ai sz xs) = (.ai sz xs)) ∧
  (∀ (t : Nat) (d : j), ca t (.aG d) = (.aG d)) ∧
  (∀ (t : Nat) (ar : List j), ca t (.agg ar) = (.agg ar)) ∧
  (∀ (t : Nat) (ar : List j), ca t (.tuple ar) = (.tuple ar)) ∧
  (∀ (t y : Nat), ca t (.h y []) = .h y []) ∧
  (∀ (t y k : Nat) q, ca t (.h y (k :: q)) = if y = t then .hole else .h y (k :: q)) ∧
  (∀ (t y : Nat) q, ca t (.ay y q) = if y = t then .hole else .ay y q) ∧
  (∀ (t : Nat) f c, ca t (.fn f c) = .fn f (h_ t c)) ∧
  (∀ t, h_ t [] = []) ∧
  (∀ t d ds, h_ t (d :: ds) = ca t d :: h_ t ds) ∧
  (∀ t, q1 t [] = []) ∧
  (∀ t u d l, q1 t ((u, d) :: l) = (u, ca t d) :: q1 t l) ∧
  (∀ t l, ir t (R l) = R (q1 t l)) :=
 ⟨fun _ _ _ => by unfold ca; rfl, fun _ _ => by unfold ca; rfl, fun _ _ => by unfold ca; rfl, fun _ _ => by unfold ca; rfl, fun _ _ => by unfold ca; rfl, fun _  => by unfold ca; rfl, fun _  => by unfold ca; rfl, fun _  => by unfold ca; rfl, fun _  => by unfold ca; rfl, fun _ _ _ => by unfold ca; rfl, fun _ _ => by unfold ca; rfl, fun _ _ => by unfold ca; rfl, fun _ _ => by unfold ca; rfl, fun _ _ => by simp [ca], fun _ _ _ _ => by simp [ca], fun _ _ _ => by unfold ca; rfl, fun _ _ _ => by simp only [ca], fun _ => by simp only [h_], fun _ _ _ => by simp only [h_], fun _ => rfl, fun _ _ _ _ => rfl, fun t l => N0 t l⟩
def BH : k9 → Bool → Option j
 | .bool, b => some (.bool b)
 | _, _ => none
def pH (neg : Bool) : k9 → Option (Option Bool) → Option j
 | .slice _, some r => some (nd neg r)
 | _, _ => none
def q6 (neg : Bool) : k9 → Option Bool → Option j
 | .ptr _, some b => some (.bool (b != neg))
 | _, _ => none
theorem F9 (C : b1) (s : ao) (T : TypeId) :
  (∀ op k a dU b, aP C s op T (.int k a) (.int dU b) = iw op k a dU b) ∧
  (∀ op a b, aP C s op T (.str a) (.str b) = mc op a b) ∧
  (∀ a b, aP C s .eql T (.bool a) (.bool b) = BH (C.T T).k (a == b)) ∧
  (∀ a b, aP C s .neq T (.bool a) (.bool b) = BH (C.T T).k (!(a == b))) ∧
  (∀ xs, aP C s .eql T (.slice xs) .af = pH false (C.T T).k (i_ s (.slice xs))) ∧
  (∀ xs, aP C s .neq T (.slice xs) .af = pH true (C.T T).k (i_ s (.slice xs))) ∧
  (aP C s .eql T .af .af = pH false (C.T T).k (i_ s .af)) ∧
  (aP C s .neq T .af .af = pH true (C.T T).k (i_ s .af)) ∧
  (∀ x q, aP C s .eql T (.h x q) .af = pH false (C.T T).k (i_ s (.h x q))) ∧
  (∀ x q, aP C s .neq T (.h x q) .af = pH true (C.T T).k (i_ s (.h x q))) ∧
  (∀ x q, aP C s .eql T (.h x q) .dj = q6 false (C.T T).k (kt s (.h x q))) ∧
  (∀ x q, aP C s .neq T (.h x q) .dj = q6 true (C.T T).k (kt s (.h x q))) ∧
  (∀ d, aP C s .eql T (.ref d) .dj = q6 false (C.T T).k (kt s (.ref d))) ∧
  (∀ d, aP C s .neq T (.ref d) .dj = q6 true (C.T T).k (kt s (.ref d))) ∧
  (aP C s .eql T .dj .dj = q6 false (C.T T).k (kt s .dj)) ∧
  (aP C s .neq T .dj .dj = q6 true (C.T T).k (kt s .dj)) := by
 refine ⟨?_, ?_, ?_, ?_, ?_, ?_, ?_, ?_, ?_, ?_, ?_, ?_, ?_, ?_, ?_, ?_⟩ <;> intros <;> first
  | rfl
  | (simp only [aP]
     generalize (C.T T).k = jR
     cases jR <;> first | rfl | (simp only [pH]; generalize i_ s _ = v; cases v <;> rfl) | (simp only [q6]; generalize kt s _ = v; cases v <;> (try (rename_i b; cases b)) <;> rfl))
theorem F_ (k : IntKind) (a b : Int) :
  iw .add k a k b = some (.int k (k.wrap (a + b))) ∧ iw .sub k a k b = some (.int k (k.wrap (a - b))) ∧ iw .mul k a k b = some (.int k (k.wrap (a * b))) ∧
  iw .eql k a k b = some (.bool (a == b)) ∧ iw .neq k a k b = some (.bool (a != b)) ∧ iw .lss k a k b = some (.bool (decide (a < b))) ∧ iw .leq k a k b = some (.bool (decide (a ≤ b))) ∧
  iw .gtr k a k b = some (.bool (decide (b < a))) ∧ iw .geq k a k b = some (.bool (decide (b ≤ a))) ∧
  iw .and k a k b = some (.int k (bitsOf .and k a b)) ∧ iw .or k a k b = some (.int k (bitsOf .or k a b)) ∧ iw .xor k a k b = some (.int k (bitsOf .xor k a b)) ∧ iw .andNot k a k b = some (.int k (bitsOf .andNot k a b)) := by
 simp [iw]
theorem OL {k : IntKind} {a b : Int} (h : b ≠ 0) : iw .quo k a k b = some (.int k (k.wrap (a.tdiv b))) := by simp [iw, h]
theorem OM {k : IntKind} {a b : Int} (h : b ≠ 0) : iw .rem k a k b = some (.int k (a.tmod b)) := by simp [iw, h]
theorem Ga (a b : List UInt8) :
  mc .eql a b = some (.bool (a == b)) ∧ mc .neq a b = some (.bool !(a == b)) ∧ mc .lss a b = some (.bool (Op.bytesLess a b)) ∧
  mc .leq a b = some (.bool (Op.bytesLess a b || a == b)) ∧ mc .gtr a b = some (.bool !(Op.bytesLess a b || a == b)) ∧ mc .geq a b = some (.bool !(Op.bytesLess a b)) := by
 refine ⟨rfl, rfl, rfl, rfl, rfl, rfl⟩
theorem Gb : (∀ b, un .not (.bool b) = some (.bool !b)) ∧ (un .not .eo = some .eo) ∧ (∀ k n, un .neg (.int k n) = some (.int k (k.wrap (0 - n)))) := ⟨fun _ => rfl, rfl, fun _ _ => rfl⟩
def BI : k9 → Option UInt8 → Option j
 | .str, some c => some (.int .u8 c.toNat)
 | _, _ => none
theorem Gc (C : b1) (T : TypeId) (l : List UInt8) (k : IntKind) (n : Int) : idx C T (.str l) (.int k n) = BI (C.T T).k (cw l n) := by
 simp only [idx, cw]
 generalize (C.T T).k = jR
 cases jR <;> first | rfl | (simp only [BI]; split <;> first | rfl | (cases l[n.toNat]? <;> rfl))
def BJ (C : b1) : k9 → Option j → Option j
 | .slice e, some d => if (C.T e).ok = true ∧ d.wd = (C.T e).sz then some (.ref d) else none
 | _, _ => none
theorem Gd (C : b1) (s : ao) (T : TypeId) (xs : List j) (k : IntKind) (n : Int) : cf C s T (.slice xs) (.int k n) = BJ C (C.T T).k (cw xs n) := by
 simp only [cf, cw]
 generalize (C.T T).k = jR
 cases jR <;> first | rfl | skip
 simp only [BJ]
 by_cases bM : 0 ≤ n
 ·simp only [bM, true_and, if_true]
  split
  ·cases xs[n.toNat]? <;> simp [*]
  ·cases xs[n.toNat]? <;> simp [*]
 ·simp only [bM, false_and, if_false]
def uU (C : b1) (y : Nat) (q : List Nat) (n : Int) : k9 → Option j → Option j
 | .slice e, some (.ai sz xs) => if (cw xs n).isSome = true ∧ (C.T e).ok = true ∧ sz = (C.T e).sz then some (.ay y (q ++ [n.toNat])) else none
 | _, _ => none
theorem Ge (C : b1) (s : ao) (T : TypeId) (y : Nat) (q : List Nat) (k : IntKind) (n : Int) : cf C s T (.h y q) (.int k n) = uU C y q n (C.T T).k (j.sub q (s y)) := by
 simp only [cf]
 generalize (C.T T).k = jR
 cases jR <;> first | rfl | skip
 rename_i e
 cases ab : j.sub q (s y) with
 | none => simp [uU]
 | some d =>
   cases d <;> first
    | (simp [uU]; done)
    | skip
   rename_i sz xs
   have bQ : (cw xs n).isSome = true ↔ 0 ≤ n ∧ n.toNat < xs.length := by
    unfold cw; split <;> simp_all <;> omega
   simp only [uU, bQ]
   by_cases bM : 0 ≤ n <;> by_cases ag : (C.T e).ok = true <;> simp [bM, ag]
def s4 : k9 → ao → Option (List UInt8) → Option (j × ao)
 | .str, s, some t => some (.str t, s)
 | _, _, _ => none
def s5 (C : b1) : k9 → ao → List j → Option (List j) → Option (j × ao)
 | .slice e, s, xs, some t => if (C.T e).ok = true ∧ ∀ d ∈ xs, d.wd = (C.T e).sz then some (.slice t, s) else none
 | _, _, _, _ => none
theorem Gf (C : b1) (s : ao) (T : TypeId) (l : List UInt8) :
  (∀ k a dU b, eb C s T (.str l) (some (.int k a)) (some (.int dU b)) = s4 (C.T T).k s (iD l a b)) ∧
  (∀ dU b, eb C s T (.str l) none (some (.int dU b)) = s4 (C.T T).k s (iD l 0 b)) ∧
  (∀ k a, eb C s T (.str l) (some (.int k a)) none = s4 (C.T T).k s (iD l a l.length)) := by
 have e : ∀ (cW au : Option j) (a b : Int), (iY 0 cW = if 0 ≤ a then some a.toNat else none) → (iY l.length au = if 0 ≤ b then some b.toNat else none) → eb C s T (.str l) cW au = s4 (C.T T).k s (iD l a b) := by
  intro cW au a b ag ah
  simp only [eb]
  generalize (C.T T).k = jR
  cases jR <;> first | rfl | skip
  simp only [ag, ah, iD]
  by_cases bX : 0 ≤ a <;> by_cases U : 0 ≤ b <;> simp only [bX, U, if_true, if_false, s4, true_and, false_and]
  ·by_cases az : a ≤ b ∧ b ≤ l.length
   ·rw [if_pos ⟨by omega, by omega⟩, if_pos az]
   ·rw [if_neg (fun h => az ⟨by omega, by omega⟩), if_neg az]
  ·rw [if_neg (by omega)]
 exact ⟨fun k a dU b => e _ _ a b rfl rfl, fun dU b => e _ _ 0 b rfl rfl, fun k a => e _ _ a l.length rfl (by simp [iY])⟩
theorem Gg (C : b1) (s : ao) (T : TypeId) (xs : List j) :
  (∀ k a dU b, eb C s T (.slice xs) (some (.int k a)) (some (.int dU b)) = s5 C (C.T T).k s xs (iD xs a b)) ∧
  (∀ dU b, eb C s T (.slice xs) none (some (.int dU b)) = s5 C (C.T T).k s xs (iD xs 0 b)) ∧
  (∀ k a, eb C s T (.slice xs) (some (.int k a)) none = s5 C (C.T T).k s xs (iD xs a xs.length)) := by
 have e : ∀ (cW au : Option j) (a b : Int), (iY 0 cW = if 0 ≤ a then some a.toNat else none) → (iY xs.length au = if 0 ≤ b then some b.toNat else none) → eb C s T (.slice xs) cW au = s5 C (C.T T).k s xs (iD xs a b) := by
  intro cW au a b ag ah
  simp only [eb]
  generalize (C.T T).k = jR
  cases jR <;> first | rfl | skip
  simp only [ag, ah, iD]
  by_cases bX : 0 ≤ a <;> by_cases U : 0 ≤ b <;> simp only [bX, U, if_true, if_false, s5, true_and, false_and]
  ·by_cases az : a ≤ b ∧ b ≤ xs.length
   ·rw [if_pos az]
    have ag : a.toNat ≤ b.toNat := by omega
    have ah : b.toNat ≤ xs.length := by omega
    simp only [ag, ah, true_and]
   ·rw [if_neg (fun h => az ⟨by omega, by omega⟩), if_neg az]
  ·rw [if_neg (by omega)]
 exact ⟨fun k a dU b => e _ _ a b rfl rfl, fun dU b => e _ _ 0 b rfl rfl, fun k a => e _ _ a xs.length rfl (by simp [iY])⟩
def uV (q : List Nat) : Option j → Option j
 | some d => j.sub q d
 | none => none
theorem Gh : (∀ d, j.sub [] d = some d) ∧ (∀ k q ar, j.sub (k :: q) (.agg ar) = uV q ar[k]?) ∧ (∀ k q ar, j.sub (k :: q) (.tuple ar) = uV q ar[k]?) ∧ (∀ k q sz xs, j.sub (k :: q) (.ai sz xs) = uV q xs[k]?) ∧
  (∀ q d, j.sub (0 :: q) (.aG d) = j.sub q d) ∧ (∀ q d, uV q (some d) = j.sub q d) ∧
  (∀ k q a b, j.sub (k :: q) (.int a b) = none) := by
 refine ⟨fun d => by simp [j.sub], ?_, ?_, ?_, fun q d => by simp [j.sub], fun _ _ => rfl, fun _ _ _ _ => by simp [j.sub]⟩
 ·intro k q ar; simp only [j.sub]; cases ar[k]? <;> rfl
 ·intro k q ar; simp only [j.sub]; cases ar[k]? <;> rfl
 ·intro k q sz ar; simp only [j.sub]; cases ar[k]? <;> rfl
def Gi (k : Nat) (q : List Nat) (n : j) (ar : List j) : Option j → j
 | some d => .agg (ar.set k (j.put q n d))
 | none => .agg ar
def Gj (k : Nat) (q : List Nat) (n : j) (ar : List j) : Option j → j
 | some d => .tuple (ar.set k (j.put q n d))
 | none => .tuple ar
def Gk (k : Nat) (q : List Nat) (n : j) (sz : Nat) (xs : List j) : Option j → j
 | some d => .ai sz (xs.set k (j.put q n d))
 | none => .ai sz xs
theorem Gl : (∀ n d, j.put [] n d = n) ∧ (∀ k q n ar, j.put (k :: q) n (.agg ar) = Gi k q n ar ar[k]?) ∧ (∀ k q n ar, j.put (k :: q) n (.tuple ar) = Gj k q n ar ar[k]?) ∧
  (∀ k q n sz xs, j.put (k :: q) n (.ai sz xs) = Gk k q n sz xs xs[k]?) ∧ (∀ q n d, j.put (0 :: q) n (.aG d) = .aG (j.put q n d)) ∧
  (∀ k q n ar d, Gi k q n ar (some d) = .agg (ar.set k (j.put q n d))) ∧ (∀ k q n ar d, Gj k q n ar (some d) = .tuple (ar.set k (j.put q n d))) ∧
  (∀ k q n sz xs d, Gk k q n sz xs (some d) = .ai sz (xs.set k (j.put q n d))) := by
 refine ⟨fun n d => by simp [j.put], ?_, ?_, ?_, fun q n d => by simp [j.put], fun _ _ _ _ _ => rfl, fun _ _ _ _ _ => rfl, fun _ _ _ _ _ _ => rfl⟩
 ·intro k q n ar; simp only [j.put]; cases ar[k]? <;> rfl
 ·intro k q n ar; simp only [j.put]; cases ar[k]? <;> rfl
 ·intro k q n sz ar; simp only [j.put]; cases ar[k]? <;> rfl
theorem BK : (∀ k n, j.wd (.int k n) = 1) ∧ (∀ b, j.wd (.bool b) = 1) ∧ (∀ x, j.wd (.str x) = 1) ∧ (∀ x, j.wd (.slice x) = 1) ∧ (∀ n x, j.wd (.ai n x) = 1) ∧ (∀ x, j.wd (.ref x) = 1) ∧ (∀ x, j.wd (.aG x) = 1) ∧
  j.wd .af = 1 ∧ j.wd .dj = 1 ∧ j.wd .hole = 1 ∧ j.wd .eo = 1 ∧ (∀ x y, j.wd (.h x y) = 1) ∧ (∀ x y, j.wd (.ay x y) = 1) ∧ (∀ x y, j.wd (.fn x y) = 1) ∧ (∀ ar, j.wd (.agg ar) = j.dI ar) ∧ (∀ ar, j.wd (.tuple ar) = j.dI ar) ∧ j.dI [] = 0 ∧ (∀ d ds, j.dI (d :: ds) = d.wd + j.dI ds) := by
 simp [j.wd, j.dI]
theorem ON {α : Type} {e : α → j} {n : Nat} (h : ∀ x, (e x).wd = n) (xs : List α) : (∀ d ∈ xs.map e, d.wd = n) = True := by
 simp only [List.mem_map, eq_iff_iff, iff_true]
 rintro d ⟨x, _, rfl⟩; exact h x
theorem OO (C : b1) (s : ao) (A B : TypeId) (k dU : IntKind) (n : Int) (ix : (C.T A).ok = true) (g0 : (C.T B).k = .int dU) : fo C s A B (.int k n) = some (.int dU (dU.wrap n)) := by
 simp only [fo, ix, g0, if_true]
theorem Gm (m : Int) : jS (ov m) = .int .u8 (IntKind.u8.wrap m) := by
 have h : 0 ≤ IntKind.u8.wrap m ∧ IntKind.u8.wrap m < 256 := by rw [IntKind.wrap_u8]; omega
 simp only [jS, ov, UInt8.toNat_ofNat']
 congr 1
 omega
theorem BL (m : Int) : ((ov m).toNat : Int) = IntKind.u8.wrap m := by
 have h := Gm m
 simpa [jS] using h
section
variable {C : b1} {l : List (Nat × j)} {Q : Exit → ao → Prop} {s : ao}
theorem hs {ros : List cA} {k : List Nat} (h : bZ C (R l) ros none (fun _ s => Q .normal (R (hY k s)))) : c4 C (.ad ros (some k)) Q (R l) := xt (fun _ _ h => h) h
theorem xz {ros : List cA} {c_ : List (List Nat)} {k : List Nat} (hlen : c_.length = ros.length) (h : bZ C (R l) ros (some []) (fun acc s => jV (nw c_) 0 [] (acc.getD []).reverse = true ∧ Q .normal (R (hY k s)))) :
  c4 C (.fA ros c_ (some k)) Q (R l) := xx hlen h
theorem aZ {a b : J} (h : ∀ gI : Exit → ao → Prop, (∀ s, gg (c4 C b Q) s → gI .normal s) → (∀ s, Q .ret s → gI .ret s) → (∀ i s, Q (.exit i) s → gI (.exit i) s) → c4 C a gI s) : c4 C (.seq a b) Q s :=
 h _ (fun _ h => h) (fun _ h => h) (fun _ _ h => h)
theorem cQ {ros : List cA} {k : List Nat} {b : J} (h : bZ C (R l) ros none (fun _ s => c4 C b Q (R (hY k s)))) : c4 C (.seq (.ad ros (some k)) b) Q (R l) := xt (fun _ _ h => .inl h) h
theorem jb {ros : List cA} {c_ : List (List Nat)} {k : List Nat} {b : J} (hlen : c_.length = ros.length) (h : bZ C (R l) ros (some []) (fun acc s => jV (nw c_) 0 [] (acc.getD []).reverse = true ∧ c4 C b Q (R (hY k s)))) :
  c4 C (.seq (.fA ros c_ (some k)) b) Q (R l) := xx (K := fun s => gg (c4 C b Q) (R (hY k s))) hlen (by
   have key : ∀ (os : List cA) (s : ao) (acc : Option (List eL)), bZ C s os acc (fun acc s => jV (nw c_) 0 [] (acc.getD []).reverse = true ∧ c4 C b Q (R (hY k s))) →
     bZ C s os acc (fun acc s => jV (nw c_) 0 [] (acc.getD []).reverse = true ∧ gg (c4 C b Q) (R (hY k s))) := by
    intro os
    induction os with
    | nil => intro s acc h; exact ⟨h.1, .inl h.2⟩
    | cons o os ih =>
      intro s acc h
      have mono : ∀ {s : ao} {bz : fy} {K df : List Nat → j → ao → Prop}, (∀ a b c, K a b c → df a b c) → mh C s bz K → mh C s bz df := by
       intro s bz K df aB h
       cases bz with
       | call f args =>
         obtain ⟨g, caps, ps, r, ag, fq, ah, aM, bd, bI, cx, cy, eB⟩ := h
         exact ⟨g, caps, ps, r, ag, fq, ah, aM, bd, bI, cx, cy, aB _ _ _ eB⟩
       | shr bz => obtain ⟨av, s1, ag, ah, aM, bd⟩ := h; exact ⟨av, s1, ag, ah, aM, aB _ _ _ bd⟩
       | lM f args u x =>
         obtain ⟨ch, cu, g, caps, ps, r, ag, fq, ah, aM, bd, bI, cx, cy, eB, iq, hk⟩ := h
         exact ⟨ch, cu, g, caps, ps, r, ag, fq, ah, aM, bd, bI, cx, cy, eB, iq, aB _ _ _ hk⟩
       | kv f args us =>
         obtain ⟨cu, g, caps, ps, r, ag, fq, ah, aM, bd, bI, cx, cy, eB, iq⟩ := h
         exact ⟨cu, g, caps, ps, r, ag, fq, ah, aM, bd, bI, cx, cy, eB, aB _ _ _ iq⟩
       | _ => obtain ⟨av, s1, ag, ah⟩ := h; exact ⟨av, s1, ag, aB _ _ _ ah⟩
      simp only [bZ, kS] at h ⊢
      split
      ·rename_i bQ; rw [bQ] at h; exact mono (fun _ _ _ => ih _ _) h
      ·rename_i t fl bQ
       rw [bQ] at h
       simp only at h
       split
       ·rename_i ajt ab
        rw [ab] at h
        simp only at h
        split
        ·rename_i U; rw [if_pos U] at h; exact mono (fun _ _ _ => ih _ _) h
        ·rename_i U; rw [if_neg U] at h; exact ih _ _ h
       ·rename_i ab; rw [ab] at h; exact ih _ _ h
       ·rename_i ag ah
        split at h
        ·exact ag _ (by assumption)
        ·exact ah (by assumption)
        ·exact h
   exact key _ _ _ h)
theorem bp {c : aH} {a b : J} (az : aI s c = .bool true) (h : c4 C a Q s) : c4 C (.cond c a b) Q s := by simp only [c4, az, if_true]; exact h
theorem bB {c : aH} {a b : J} (az : aI s c = .bool false) (h : c4 C b Q s) : c4 C (.cond c a b) Q s := by simp only [c4, az]; exact h
theorem BM {c : aH} {a b : J} (az : aI s c = .eo) (ag : c4 C a Q s) (ah : c4 C b Q s) : c4 C (.cond c a b) Q s := by simp only [c4, az]; exact ⟨ag, ah⟩
theorem cd {id : Nat} {b : J} (h : ∀ gI : Exit → ao → Prop, (∀ s, Q .normal s → gI .normal s) → (∀ s, Q .ret s → gI .ret s) → (∀ s, Q .normal s → gI (.exit id) s) → (∀ i s, i ≠ id → Q (.exit i) s → gI (.exit i) s) → c4 C b gI s) : c4 C (.block id b) Q s :=
 h (sy id Q) (fun _ h => h) (fun _ h => h) (fun s h => by simp only [sy, if_true]; exact h) (fun i s au h => by simp only [sy, if_neg au]; exact h)
theorem eu {id : Nat} (h : Q (.exit id) s) : c4 C (.exit id) Q s := h
theorem a6 (h : Q .ret s) : c4 C .ret Q s := h
theorem bF (h : Q .normal s) : c4 C .skip Q s := h
def eg (C : b1) (b : J) (Q : Exit → ao → Prop) (s : ao) : Prop := ∀ Z : ao → Prop, (∀ aC, c4 C b (andThen (gg Z) Q) aC → Z aC) → Z s
theorem ev {b : J} (h : gg (eg C b Q) s) : c4 C (.loop b) Q s := h
theorem ew {b : J} (h : ∀ gI : Exit → ao → Prop, (∀ s, gg (eg C b Q) s → gI .normal s) → (∀ s, Q .ret s → gI .ret s) → (∀ i s, Q (.exit i) s → gI (.exit i) s) → c4 C b gI s) : eg C b Q s := by
 intro Z sB
 refine sB s (Fz b ?_ (h (andThen (gg (eg C b Q)) Q) (fun _ h => h) (fun _ h => h) (fun _ _ h => h)))
 intro e aC bN
 cases e with
 | normal => exact sA (fun s h => h Z sB) aC bN
 | _ => exact bN
theorem cb {dr : List (Nat × j)} (h : dr.map (·.2) = dr.map fun p => s p.1) : sx s dr := by
 intro p ay
 left
 induction dr with
 | nil => cases ay
 | cons a dr ih =>
   simp only [List.map_cons, List.cons.injEq] at h
   rcases List.mem_cons.1 ay with rfl | ay
   ·exact h.1
   ·exact ih h.2 ay
end
section
variable {C : b1} {l : List (Nat × j)} {Q : Exit → ao → Prop} {s : ao} {os ros : List cA} {K : Option (List eL) → ao → Prop} {dst : Option Nat}
theorem Gn (l : List (Nat × j)) : (∀ n, aI (R l) (.t n) = iG n (R l n)) ∧ (∀ av, aI (R l) (.c av) = av) ∧ (∀ g, aI (R l) (.f g) = .fn g []) := ⟨fun _ => rfl, fun _ => rfl, fun _ => rfl⟩
theorem Gp : (∀ t, R [] t = .hole) ∧ (∀ u d (l : List (Nat × j)) t, R ((u, d) :: l) t = if t = u then d else R l t) := ⟨fun _ => rfl, fun _ _ _ _ => rfl⟩
theorem Gq (s : ao) : hY [] s = [] ∧ (∀ t k, hY (t :: k) s = (t, s t) :: hY k s) := ⟨rfl, fun _ _ => rfl⟩
theorem Gr (s : ao) : (∀ d, cV s (some d) = some (d, s)) ∧ (∀ s1, fW (some s1) = some (.hole, s1)) ∧ hC s [] = [] ∧ (∀ x xs, hC s (x :: xs) = aI s x :: hC s xs) ∧ jK s [] = [] ∧ (∀ k x xs, jK s ((k, x) :: xs) = (k, aI s x) :: jK s xs) ∧
  kB s none = none ∧ (∀ x, kB s (some x) = some (aI s x)) ∧ (∀ b x y, pG s (.bool b) x y = some (if b = true then x else y, s)) :=
 ⟨fun _ => rfl, fun _ => rfl, rfl, fun _ _ => rfl, rfl, fun _ _ _ => rfl, rfl, fun _ => rfl, fun b _ _ => by cases b <;> rfl⟩
theorem Gs (C : b1) : (∀ e d, BJ C (.slice e) (some d) = if (C.T e).ok = true ∧ d.wd = (C.T e).sz then some (.ref d) else none) ∧
  (∀ y q n e sz xs, uU C y q n (.slice e) (some (.ai sz xs)) = if (cw xs n).isSome = true ∧ (C.T e).ok = true ∧ sz = (C.T e).sz then some (.ay y (q ++ [n.toNat])) else none) ∧
  (∀ e s xs t, s5 C (.slice e) s xs (some t) = if (C.T e).ok = true ∧ ∀ d ∈ xs, d.wd = (C.T e).sz then some (.slice t, s) else none) :=
 ⟨fun _ _ => rfl, fun _ _ _ _ _ _ => rfl, fun _ _ _ _ => rfl⟩
theorem Gt : (∀ b, BH .bool b = some (.bool b)) ∧ (∀ c, BI .str (some c) = some (.int .u8 c.toNat)) ∧ (∀ s t, s4 .str s (some t) = some (.str t, s)) ∧ (∀ q d, uV q (some d) = j.sub q d) :=
 ⟨fun _ => rfl, fun _ => rfl, fun _ _ => rfl, fun _ _ => rfl⟩
theorem Gu (sz bytes : Nat) (z : j) : (∀ k, gb.ok ⟨.int k, sz, bytes, z⟩ = true) ∧ gb.ok ⟨.bool, sz, bytes, z⟩ = true ∧ gb.ok ⟨.str, sz, bytes, z⟩ = true ∧ (∀ e, gb.ok ⟨.ptr e, sz, bytes, z⟩ = true) ∧ (∀ e, gb.ok ⟨.slice e, sz, bytes, z⟩ = true) ∧ (∀ e, gb.ok ⟨.struct e, sz, bytes, z⟩ = true) ∧ gb.ok ⟨.fn, sz, bytes, z⟩ = true := by
 simp [gb.ok]
theorem Gv (sz bytes : Nat) (z : j) : (∀ k, gb.flat ⟨.int k, sz, bytes, z⟩ = true) ∧ gb.flat ⟨.bool, sz, bytes, z⟩ = true ∧ gb.flat ⟨.str, sz, bytes, z⟩ = true ∧ (∀ e, gb.flat ⟨.ptr e, sz, bytes, z⟩ = true) ∧ (∀ e, gb.flat ⟨.slice e, sz, bytes, z⟩ = true) ∧ (∀ e, gb.flat ⟨.struct e, sz, bytes, z⟩ = false) ∧ gb.flat ⟨.fn, sz, bytes, z⟩ = true := by
 simp [gb.flat]
theorem uW (c : UInt8) (k : IntKind) (aB : k ≠ .i8) : k.wrap (c.toNat : Int) = (c.toNat : Int) := by
 have := c.toNat_lt
 cases k <;> first | (exact (aB rfl).elim) | (simp [IntKind.wrap, IntKind.bits, IntKind.signed]; try omega)
theorem BN (c : UInt8) : IntKind.i64.wrap (c.toNat : Int) = (c.toNat : Int) ∧ IntKind.u64.wrap (c.toNat : Int) = (c.toNat : Int) ∧ IntKind.u8.wrap (c.toNat : Int) = (c.toNat : Int) ∧ IntKind.i32.wrap (c.toNat : Int) = (c.toNat : Int) ∧ IntKind.u32.wrap (c.toNat : Int) = (c.toNat : Int) :=
 ⟨uW c _ (by simp), uW c _ (by simp), uW c _ (by simp), uW c _ (by simp), uW c _ (by simp)⟩
theorem b0 {k : List Nat} {K : ao → Prop} (dr : List (Nat × j)) (h : ∀ P : List (Nat × j) → Prop, P dr → bZ C (R l) ros none (fun _ s => P (hY k s))) (aB : K (R dr)) : bZ C (R l) ros none (fun _ s => K (R (hY k s))) :=
 h (fun l => K (R l)) aB
theorem ik {k : List Nat} {lR : List (List Nat)} {K : ao → Prop} (dr : List (Nat × j)) (h : ∀ P : List (Nat × j) → Prop, P dr → bZ C (R l) ros (some []) (fun acc s => jV lR 0 [] (acc.getD []).reverse = true ∧ P (hY k s))) (aB : K (R dr)) :
  bZ C (R l) ros (some []) (fun acc s => jV lR 0 [] (acc.getD []).reverse = true ∧ K (R (hY k s))) :=
 h (fun l => K (R l)) aB
theorem a0.OP (bt : C.eO) {f : FuncId} {fn : Func} {c : Code} {fF : J} {fx : List Nat} {as outs : List j} {r : j} (bY : C.P.funcs[f]? = some fn) (U : fn.body = some c)
  (lo : (fn.name == "runtime.NumGoroutine") = false) (ab : bS ⟨fn.ntmps, fx⟩ c = some fF.strip) (bh : as.length ≤ fn.ntmps)
  (h : ∀ Q : Exit → ao → Prop, (∀ s, gg (Ends C fx fn.results.toList r outs) s → Q .ret s) → (∀ s, gg (Ends C fx fn.results.toList r outs) s → Q .normal s) → c4 C fF Q (R (num 0 as))) (ay : fF.plain = true := by kernel_rfl) : a0 C f as r outs := by
 refine a0.of_wp bt bY U lo ab bh ?_ ay
 rw [FH]
 exact h _ (fun s h => ⟨.inr rfl, h⟩) (fun s h => ⟨.inl rfl, h⟩)
def OQ : List j → j
 | [d] => d
 | ds => .tuple ds
theorem a7 {fx : List Nat} {g2 : List ResultVar} {r : j} {outs : List j} (ds : List j) (ag : g2.map (pD C s) = ds.map some) (ah : r = OQ ds) (aM : (g2.map jw).Nodup)
  (bd : ∀ (i : Nat) (o : j), outs[i]? = some o → o = .hole ∨ (o = s i ∧ o.fV = true ∧ i ∈ fx ∧ i ∉ g2.map jw)) : Ends C fx g2 r outs s := ⟨ds, ag, by subst ah; cases ds with | nil => rfl | cons a t => cases t <;> rfl, aM, bd⟩
theorem a_ {fx : List Nat} {g2 : List ResultVar} : ∀ (i : Nat) (o : j), ([] : List j)[i]? = some o → o = .hole ∨ (o = s i ∧ o.fV = true ∧ i ∈ fx ∧ i ∉ g2.map jw) := fun i o h => by simp at h
theorem Gw : ∀ (as ds : List j), (lp as ds).filter (·.g) = []
 | [], _ => rfl
 | _ :: _, [] => rfl
 | a :: as, d :: ds => by simp only [lp, List.filter_cons]; exact Gw as ds
theorem xA {f : aH} {args : List aH} {g : FuncId} {caps : List j} {K : List Nat → j → ao → Prop} (ds : List j) (r : j)
  (ag : aI (R l) f = .fn g caps) (fq : j.d_ caps = true) (i0 : views (R l) (hC (R l) args ++ caps) = some ds)
  (bI : a0 C g ds r []) (cx : r.res = true) (cy : j.dV (hC (R l) args ++ caps) = [] ∨ r.dm = true) (js : K [] r (R l)) : mh C (R l) (.call f args) K := by
 obtain ⟨a1, bg, bf, cn, c3, b_, bV⟩ := N1 _ _ i0
 refine ⟨g, caps, lp (hC (R l) args ++ caps) ds, r, ag, fq, by rw [a1, uT], fun p ay => (bf p ay).1, cn, by rw [bg]; exact bI.outs c3.symm, cx, ?_, by rw [b_, bV, Gw]; exact js⟩
 intro hl
 refine ⟨?_, fun p ay => by rw [(bf p ay).2.2.1]; rfl⟩
 rcases cy with cy | cy
 ·exfalso
  simp only [jr, List.any_eq_true] at hl
  obtain ⟨p, ay, gG⟩ := hl
  have hm := (bf p ay).2.2.2
  have : p.a.ab = [] := by
   have key : ∀ (as : List j) (a : j), a ∈ as → j.dV as = [] → a.ab = [] := by
    intro as
    induction as with
    | nil => intro a h; cases h
    | cons b as ih =>
      intro a h he
      simp only [j.dV, List.append_eq_nil_iff] at he
      rcases List.mem_cons.1 h with rfl | h
      ·exact he.1
      ·exact ih a h he.2
   exact key _ _ hm cy
  rw [this] at gG; simp at gG
 ·exact cy
theorem ey {f : aH} {args : List aH} {g : FuncId} {caps : List j} {ds : List j} {r : j} (bI : a0 C g ds r [])
  (ag : aI (R l) f = .fn g caps) (fq : j.d_ caps = true) (i0 : views (R l) (hC (R l) args ++ caps) = some ds)
  (cx : r.res = true) (cy : j.dV (hC (R l) args ++ caps) = [] ∨ r.dm = true)
  (js : bZ C (fin (R l) dst r) os none K) : bZ C (R l) (⟨dst, .call f args, none⟩ :: os) none K := by
 simp only [bZ, kS, nu]
 exact xA ds r ag fq i0 bI cx cy js
theorem e7 {a : List eL} {f : aH} {args : List aH} {g : FuncId} {caps : List j} {ds : List j} {r : j} (bI : a0 C g ds r [])
  (ag : aI (R l) f = .fn g caps) (fq : j.d_ caps = true) (i0 : views (R l) (hC (R l) args ++ caps) = some ds)
  (cx : r.res = true) (cy : j.dV (hC (R l) args ++ caps) = [] ∨ r.dm = true)
  (js : bZ C (fin (R l) dst r) os (some (ij (R l) (use (R l) (.call f args)) dst [] r :: a)) K) : bZ C (R l) (⟨dst, .call f args, none⟩ :: os) (some a) K := by
 simp only [bZ, kS, nu]
 exact xA ds r ag fq i0 bI cx cy js
theorem jc {t : Nat} {b : Bool} {f : aH} {args : List aH} {g : FuncId} {caps : List j} {ds : List j} {r : j} (bI : a0 C g ds r [])
  (ag : aI (R l) f = .fn g caps) (fq : j.d_ caps = true) (i0 : views (R l) (hC (R l) args ++ caps) = some ds)
  (cx : r.res = true) (cy : j.dV (hC (R l) args ++ caps) = [] ∨ r.dm = true)
  (js : bZ C (fin (R l) dst r) os none K) : cg C l dst (.call f args) t b os none K (.bool b) := by
 simp only [cg, if_true]
 exact xA ds r ag fq i0 bI cx cy js
theorem Gx {a : List eL} {t : Nat} {b : Bool} {f : aH} {args : List aH} {g : FuncId} {caps : List j} {ds : List j} {r : j} (bI : a0 C g ds r [])
  (ag : aI (R l) f = .fn g caps) (fq : j.d_ caps = true) (i0 : views (R l) (hC (R l) args ++ caps) = some ds)
  (cx : r.res = true) (cy : j.dV (hC (R l) args ++ caps) = [] ∨ r.dm = true)
  (js : bZ C (fin (R l) dst r) os (some (ij (R l) (t :: use (R l) (.call f args)) dst [] r :: a)) K) : cg C l dst (.call f args) t b os (some a) K (.bool b) := by
 simp only [cg, if_true]
 exact xA ds r ag fq i0 bI cx cy js
theorem eZ (s : ao) : views s [] = some [] ∧ (∀ d ds, views s (d :: ds) = (match view s d, views s ds with | some a, some b => some (a :: b) | _, _ => none)) ∧
  (∀ k n, view s (.int k n) = some (.int k n)) ∧ (∀ b, view s (.bool b) = some (.bool b)) ∧ (∀ x, view s (.str x) = some (.str x)) ∧ (∀ x, view s (.slice x) = some (.slice x)) ∧ (∀ x, view s (.ref x) = some (.ref x)) ∧
  view s .af = some .af ∧ view s .dj = some .dj ∧ (∀ ar, view s (.agg ar) = some (.agg ar)) ∧ (∀ f cap, view s (.fn f cap) = (views s cap).map (.fn f)) := by
 refine ⟨rfl, fun d ds => ?_, fun _ _ => rfl, fun _ => rfl, fun _ => rfl, fun _ => rfl, fun _ => rfl, rfl, rfl, fun _ => rfl, fun _ _ => by simp only [view]⟩
 simp only [views]; rfl
theorem bx {α : Type} {u e : α → j} (h : ∀ x, (u x).share = e x) (xs : List α) : j.shares (xs.map u) = xs.map e := by
 rw [j.qu]; simp [h]
theorem kC {α : Type} {u : α → j} (h : ∀ x, (u x).dm = true) (xs : List α) : j.i1 (xs.map u) = true := by
 induction xs with
 | nil => rfl
 | cons x xs ih => simp only [List.map_cons, j.i1, h, ih, Bool.and_self]
def pI (s : ao) (H : List Nat) : List (Nat × j) → Prop
 | [] => True
 | p :: l => (p.2 = s p.1 ∨ ((s p.1).tree = true ∧ eH (s p.1) p.2 ∧ p.1 ∉ H)) ∧ pI s H l
theorem jd {dr : List (Nat × j)} (H : List Nat) (ln : j.dV (dr.map (·.2)) = H) (h : pI s H dr) : sx s dr := by
 have key : ∀ (eY : List (Nat × j)), pI s H eY → ∀ p ∈ eY, p.2 = s p.1 ∨ ((s p.1).tree = true ∧ eH (s p.1) p.2 ∧ p.1 ∉ H) := by
  intro eY
  induction eY with
  | nil => intro _ p ay; cases ay
  | cons a eY ih =>
    intro h p ay
    rcases List.mem_cons.1 ay with rfl | ay
    ·exact h.1
    ·exact ih h.2 p ay
 have ab : ∀ (eY : List (Nat × j)), ∀ cl ∈ eY, ∀ u ∈ cl.2.ab, u ∈ j.dV (eY.map (·.2)) := by
  intro eY
  induction eY with
  | nil => intro p ay; cases ay
  | cons a eY ih =>
    intro p ay u hu
    simp only [List.map_cons, j.dV, List.mem_append]
    rcases List.mem_cons.1 ay with rfl | ay
    ·exact .inl hu
    ·exact .inr (ih p ay u hu)
 intro p ay
 rcases key _ h p ay with ag | ⟨ag, ah, aM⟩
 ·exact .inl ag
 ·refine .inr ⟨ag, ah, fun cl dP => .inl fun hm => aM ?_⟩
  rw [← ln]; exact ab dr cl dP _ hm
def pJ (s : ao) (H D : List Nat) : List (Nat × j) → Prop
 | [] => True
 | p :: l => (p.2 = s p.1 ∨ ((s p.1).tree = true ∧ eH (s p.1) p.2 ∧ (p.1 ∉ H ∨ ((s p.1).own = true ∧ p.2.own = true ∧ p.1 ∉ D)))) ∧ pJ s H D l
theorem OR {dr : List (Nat × j)} (H D : List Nat) (ln : j.dV (dr.map (·.2)) = H) (BO : j.pA (dr.map (·.2)) = D) (h : pJ s H D dr) : sx s dr := by
 have key : ∀ (eY : List (Nat × j)), pJ s H D eY → ∀ p ∈ eY, p.2 = s p.1 ∨ ((s p.1).tree = true ∧ eH (s p.1) p.2 ∧ (p.1 ∉ H ∨ ((s p.1).own = true ∧ p.2.own = true ∧ p.1 ∉ D))) := by
  intro eY
  induction eY with
  | nil => intro _ p ay; cases ay
  | cons a eY ih =>
    intro h p ay
    rcases List.mem_cons.1 ay with rfl | ay
    ·exact h.1
    ·exact ih h.2 p ay
 have ab : ∀ (eY : List (Nat × j)), ∀ cl ∈ eY, (∀ u ∈ cl.2.ab, u ∈ j.dV (eY.map (·.2))) ∧ ∀ u ∈ cl.2.pz, u ∈ j.pA (eY.map (·.2)) := by
  intro eY
  induction eY with
  | nil => intro p ay; cases ay
  | cons a eY ih =>
    intro p ay
    simp only [List.map_cons, j.dV, j.pA, List.mem_append]
    rcases List.mem_cons.1 ay with rfl | ay
    ·exact ⟨fun u hu => .inl hu, fun u hu => .inl hu⟩
    ·exact ⟨fun u hu => .inr ((ih p ay).1 u hu), fun u hu => .inr ((ih p ay).2 u hu)⟩
 intro p ay
 rcases key _ h p ay with ag | ⟨ag, ah, aM⟩
 ·exact .inl ag
 ·refine .inr ⟨ag, ah, fun cl dP => ?_⟩
  rcases aM with aM | ⟨lj, mg, ss⟩
  ·exact .inl fun hm => aM (by rw [← ln]; exact (ab dr cl dP).1 _ hm)
  ·exact .inr ⟨lj, mg, fun hm => ss (by rw [← BO]; exact (ab dr cl dP).2 _ hm)⟩
theorem OS {H D : List Nat} : pJ s H D [] := trivial
theorem xB {H D : List Nat} {t : Nat} {d : j} {dr : List (Nat × j)} (h : d = s t) (hl : pJ s H D dr) : pJ s H D ((t, d) :: dr) := ⟨.inl h, hl⟩
theorem OT {H D : List Nat} {t : Nat} {d bw : j} {dr : List (Nat × j)} (e : s t = d) (a3 : d.tree = true) (ak : eH d bw) (ag : d.own = true) (ah : bw.own = true) (BO : t ∉ D) (hl : pJ s H D dr) : pJ s H D ((t, bw) :: dr) :=
 ⟨.inr ⟨by rw [e]; exact a3, by rw [e]; exact ak, .inr ⟨by rw [e]; exact ag, ah, BO⟩⟩, hl⟩
theorem je {H : List Nat} : pI s H [] := trivial
theorem dQ {H : List Nat} {t : Nat} {d : j} {dr : List (Nat × j)} (h : d = s t) (hl : pI s H dr) : pI s H ((t, d) :: dr) := ⟨.inl h, hl⟩
theorem i2 {H : List Nat} {t : Nat} {d bw : j} {dr : List (Nat × j)} (e : s t = d) (a3 : d.tree = true) (ak : eH d bw) (ln : t ∉ H) (hl : pI s H dr) : pI s H ((t, bw) :: dr) := ⟨.inr ⟨by rw [e]; exact a3, by rw [e]; exact ak, ln⟩, hl⟩
theorem Gy {a b : j} (h : eH a b) : ∀ n, jJ (List.replicate n a) (List.replicate n b)
 | 0 => .nil
 | n + 1 => by simp only [List.replicate_succ]; exact .cons h (Gy h n)
theorem Gz {α : Type} {sz : Nat} {u : α → j} {z : α} {a : j} (h : eH a (u z)) (n : Nat) : eH (.ai sz (List.replicate n a)) (.ai sz ((List.replicate n z).map u)) := by
 rw [List.map_replicate]; exact .ai (Gy h n)
end
theorem GA {C : b1} {A B : TypeId} {dU : IntKind} (ix : (C.T A).ok = true) (g0 : (C.T B).k = .int dU) : ∀ s k n, fo C s A B (.int k n) = some (.int dU (dU.wrap n)) := fun s k n => OO C s A B k dU n ix g0
def GB : Option j → Option j
 | some (.ai 1 xs) => (bytesOf xs).map .str
 | _ => none
theorem GC {C : b1} {A B e : TypeId} (ix : (C.T A).k = .slice e) (g0 : (C.T B).k = .str) (he : (C.T e).k = .int .u8) :
  (∀ s xs, fo C s A B (.slice xs) = (bytesOf xs).map .str) ∧ (∀ s, fo C s A B .af = some (.str [])) ∧ (∀ s x q, fo C s A B (.h x q) = GB (j.sub q (s x))) := by
 have ur : (C.T A).ok = true := by simp [gb.ok, ix]
 refine ⟨fun s xs => ?_, fun s => ?_, fun s x q => ?_⟩
 ·simp only [fo, ur, ix, g0, he, if_true]
 ·simp only [fo, ur, ix, g0, he, if_true]
 ·simp only [fo, ur, ix, g0, he, if_true]
  rfl
theorem GD (xs : List j) : GB (some (.ai 1 xs)) = (bytesOf xs).map .str := rfl
theorem GF (c : UInt8) (r : List j) : bytesOf (jS c :: r) = (bytesOf r).map (c :: ·) := by
 have := c.toNat_lt
 simp only [jS, bytesOf]
 rw [if_pos (by omega)]
 simp
theorem GG : bytesOf [] = some [] ∧ (∀ l : List UInt8, bytesOf (l.map jS) = some l) ∧ (∀ (c : UInt8) r, bytesOf (.int .u8 (c.toNat : Int) :: r) = (bytesOf r).map (c :: ·)) ∧
  (∀ m r, bytesOf (.int .u8 (IntKind.u8.wrap m) :: r) = (bytesOf r).map (ov m :: ·)) :=
 ⟨rfl, LC, fun c r => GF c r, fun m r => by rw [← Gm]; exact GF _ r⟩
theorem OU {k : IntKind} {b : Int} (h : b ≠ 0) : ∀ a, iw .quo k a k b = some (.int k (k.wrap (a.tdiv b))) := fun _ => OL h
theorem GH {k : IntKind} {b : Int} (h : b ≠ 0) : ∀ a, iw .rem k a k b = some (.int k (a.tmod b)) := fun _ => OM h
theorem db {α : Type} {e : α → j} {n : Nat} (h : ∀ x, (e x).wd = n) : ∀ xs : List α, (∀ d ∈ xs.map e, d.wd = n) = True := ON h
theorem all_cons {P : j → Prop} (d : j) (ds : List j) : (∀ x ∈ d :: ds, P x) = (P d ∧ ∀ x ∈ ds, P x) := by simp
theorem all_nil {P : j → Prop} : (∀ x ∈ ([] : List j), P x) = True := by simp
def GI (a b : List UInt8) : Option Unit → Option j
 | some _ => some (.str (a ++ b))
 | none => none
theorem xC (a b : List UInt8) : mc .add a b = GI a b (nR (a.length + b.length)) := by
 simp only [mc, nR]; split <;> rfl
theorem xD (a b : List UInt8) (u : Unit) : GI a b (some u) = some (.str (a ++ b)) := rfl
theorem GJ : (∀ l : List Nat, [] ++ l = l) ∧ (∀ a (l m : List Nat), (a :: l) ++ m = a :: (l ++ m)) := ⟨fun _ => rfl, fun _ _ _ => rfl⟩
def GK (C : b1) (e bJ : TypeId) : Bool := (C.T e).ok && ((C.T e).zero.wd == (C.T e).sz) && (flat (C.T e).zero).isSome && w9 C e bJ
def xE (C : b1) (e : TypeId) (xs : List j) : Option (List j × ao) → Option (j × ao)
 | some (cz, s2) => if (∀ d ∈ cz, d.wd = (C.T e).sz) ∧ (room (C.T e).bytes (xs.length + cz.length)).isSome = true then some (.ai (C.T e).sz (xs ++ cz), s2) else none
 | none => none
def BP (C : b1) (e : TypeId) (y : j) (o : Option Nat) : Option (j × ao) → Option (j × ao)
 | some (.ai sz xs, s1) => if sz = (C.T e).sz then xE C e xs (kx s1 (jQ o y)) else none
 | _ => none
theorem OV (b n : Nat) : (room b n).isSome = true ↔ n * b ≤ 140737488355328 ∧ n ≤ 9223372036854775807 := by unfold room; split <;> simp_all
theorem dc {C : b1} {T bJ e : TypeId} (lI : (C.T T).k = .slice e) (fp : GK C e bJ = true) : ∀ s x y, lg C s T bJ x y = BP C e y x.owner (n5 C e s x) := by
 intro s x y
 simp only [GK, Bool.and_eq_true, beq_iff_eq] at fp
 rw [A0, lI]
 simp only
 rw [if_pos ⟨fp.1.1.1, fp.1.1.2, fp.1.2, fp.2⟩]
 generalize x.owner = o
 cases n5 C e s x with
 | none => rfl
 | some p =>
   obtain ⟨d, s1⟩ := p
   cases d <;> first
    | rfl
    | (simp only [BP]
       split
       ·rename_i h; subst h
        generalize kx s1 (jQ o y) = z
        cases z with
        | none => rfl
        | some p => simp only [xE, OV]
       ·rfl)
def GL : Option (j × ao) → Option (List j × ao)
 | some (.ai _ cz, s2) => some (cz, s2)
 | _ => none
theorem dd (s : ao) : kx s .af = some ([], s) ∧ (∀ cz, kx s (.slice cz) = some (cz, s)) ∧ (∀ l, kx s (.str l) = some (l.map jS, s)) ∧
  (∀ a q, kx s (.h a q) = GL (cG s (.h a q))) ∧ (∀ n cz, GL (some (.ai n cz, s)) = some (cz, s)) :=
 ⟨rfl, fun _ => rfl, fun _ => rfl, fun _ _ => by simp only [kx]; rfl, fun _ _ => rfl⟩
theorem de (C : b1) (e : TypeId) : (∀ s, n5 C e s .af = some (.ai (C.T e).sz [], s)) ∧ (∀ s a q, n5 C e s (.h a q) = cG s (.h a q)) ∧
  (∀ y o sz xs s1, BP C e y o (some (.ai sz xs, s1)) = if sz = (C.T e).sz then xE C e xs (kx s1 (jQ o y)) else none) ∧
  (∀ xs cz s2, xE C e xs (some (cz, s2)) = if (∀ d ∈ cz, d.wd = (C.T e).sz) ∧ (room (C.T e).bytes (xs.length + cz.length)).isSome = true then some (.ai (C.T e).sz (xs ++ cz), s2) else none) :=
 ⟨fun _ => rfl, fun _ _ _ => rfl, fun _ _ _ _ _ => rfl, fun _ _ _ => rfl⟩
theorem cm : (∀ d, jQ none d = d) ∧ (∀ x d, jQ (some x) d = ca x d) ∧ (∀ x q, j.owner (.h x q) = some x) ∧ j.owner .af = none :=
 ⟨fun _ => rfl, fun _ _ => rfl, fun _ _ => rfl, rfl⟩
def GM (s : ao) (x : Nat) (q : List Nat) : Option j → Option (j × ao)
 | some d => if d.plain = true then none else some (d, dq (ir x s) x (j.put q d.c0 (s x)))
 | none => none
theorem GN (s : ao) (x : Nat) (q : List Nat) : cG s (.h x q) = GM s x q (j.sub q (s x)) := by
 simp only [cG]; cases j.sub q (s x) <;> rfl
theorem GO (s : ao) : (∀ x q d, GM s x q (some d) = if d.plain = true then none else some (d, dq (ir x s) x (j.put q d.c0 (s x)))) ∧ (∀ k n, cG s (.int k n) = some (.int k n, s)) ∧ (∀ b, cG s (.bool b) = some (.bool b, s)) ∧ (∀ x, cG s (.str x) = some (.str x, s)) ∧
  (∀ x, cG s (.slice x) = some (.slice x, s)) ∧ (∀ x, cG s (.ref x) = some (.ref x, s)) ∧ (∀ x, cG s (.agg x) = some (.agg x, s)) ∧ cG s .af = some (.af, s) ∧ cG s .dj = some (.dj, s) :=
 ⟨fun _ _ _ => rfl, fun _ _ => rfl, fun _ => rfl, fun _ => rfl, fun _ => rfl, fun _ => rfl, fun _ => rfl, rfl, rfl⟩
theorem GP (l : List (Nat × j)) (t : Nat) (d : j) : dq (R l) t d = R ((t, d) :: l) := kc l t d
theorem GQ : (∀ n x, j.c0 (.ai n x) = .hole) ∧ (∀ x, j.c0 (.aG x) = .hole) ∧ (∀ ar, j.c0 (.agg ar) = .agg (j.kn ar)) ∧ (∀ ar, j.c0 (.tuple ar) = .tuple (j.kn ar)) ∧ j.kn [] = [] ∧ (∀ d ds, j.kn (d :: ds) = d.c0 :: j.kn ds) ∧
  (∀ k n, j.c0 (.int k n) = .int k n) ∧ (∀ b, j.c0 (.bool b) = .bool b) ∧ (∀ x, j.c0 (.str x) = .str x) ∧ (∀ x, j.c0 (.slice x) = .slice x) ∧ (∀ x, j.c0 (.ref x) = .ref x) ∧ j.c0 .af = .af ∧ j.c0 .dj = .dj ∧ j.c0 .hole = .hole := by
 simp [j.c0, j.kn]
def q7 : Option j → Option j
 | some d => (match d with | .tuple _ => none | d => if d.plain = true then none else some d.share)
 | none => none
def q8 : Option j → Option j
 | some d => (match d with | .tuple _ => none | d => some (.ref d.share))
 | none => none
theorem e0 (s : ao) (x : Nat) (q : List Nat) : view s (.h x q) = q7 (j.sub q (s x)) ∧ view s (.ay x q) = (if j.e_ q (s x) = true then q8 (j.sub q (s x)) else none) := by
 constructor
 ·simp only [view]; rfl
 ·simp only [view]; rfl
theorem e1 : (∀ n xs, q7 (some (.ai n xs)) = some (.slice (j.shares xs))) ∧ (∀ d, q7 (some (.aG d)) = some (.ref d.share)) ∧ (∀ ar, q7 (some (.agg ar)) = if j.d_ ar = true then none else some (.agg (j.shares ar))) ∧
  (∀ ar, q8 (some (.agg ar)) = some (.ref (.agg (j.shares ar)))) ∧ (∀ k n, q8 (some (.int k n)) = some (.ref (.int k n))) ∧ (∀ x, q8 (some (.str x)) = some (.ref (.str x))) :=
 ⟨fun _ _ => by simp [q7, j.plain, j.share], fun _ => by simp [q7, j.plain, j.share], fun ar => by cases h : j.d_ ar <;> simp [q7, j.plain, j.share, h], fun _ => by simp [q8, j.share], fun _ _ => by simp [q8, j.share], fun _ => by simp [q8, j.share]⟩
theorem dy : (∀ n xs, j.share (.ai n xs) = .slice (j.shares xs)) ∧ (∀ d, j.share (.aG d) = .ref d.share) ∧ (∀ xs, j.share (.slice xs) = .slice (j.shares xs)) ∧ (∀ d, j.share (.ref d) = .ref d.share) ∧ (∀ ar, j.share (.agg ar) = .agg (j.shares ar)) ∧ (∀ ar, j.share (.tuple ar) = .tuple (j.shares ar)) ∧
  (∀ k n, j.share (.int k n) = .int k n) ∧ (∀ b, j.share (.bool b) = .bool b) ∧ (∀ x, j.share (.str x) = .str x) ∧ j.share .af = .af ∧ j.share .dj = .dj ∧ j.shares [] = [] ∧ (∀ d ds, j.shares (d :: ds) = d.share :: j.shares ds) := by
 simp [j.share, j.shares]
def eh (sz : Nat) : Option (List j × ao) → Option (j × ao)
 | some (ds, s1) => some (.ai sz ds, s1)
 | none => none
def gU : Option (List j × ao) → Option (j × ao)
 | some (ds, s1) => some (.agg ds, s1)
 | none => none
theorem ei {C : b1} {T e n sz : Nat} {en : List j} (lI : (C.T T).k = .slice e) (ef : (C.T e).sz = sz) (b2 : List.replicate n (C.T e).zero = en)
  (fp : ((C.T e).ok && ((C.T e).zero.wd == sz) && (flat (C.T e).zero).isSome && (sz != 0) && decide (n * sz ≤ 16777216)) = true) : ∀ s ps, cE C s T n ps = eh sz (jI (fun k => some (k * sz, sz)) s en [] ps) := by
 intro s ps
 subst ef
 simp only [Bool.and_eq_true, beq_iff_eq, bne_iff_ne, decide_eq_true_eq] at fp
 obtain ⟨⟨⟨⟨ag, ah⟩, aM⟩, bd⟩, bI⟩ := fp
 unfold cE
 rw [lI]
 simp only
 rw [if_pos ⟨ag, ah, aM, bd, bI⟩, b2]
 cases jI (fun k => some (k * (C.T e).sz, (C.T e).sz)) s en [] ps <;> rfl
theorem g3 {C : b1} {T : Nat} {ar : List (TypeId × Nat)} {en : List j} (lI : (C.T T).k = .struct ar) (b2 : (C.T T).zero = .agg en)
  (fp : ((flat (.agg en)).isSome && ar.all fun f => (C.T f.1).ok) = true) : ∀ s ps, ed C s T ps = gU (jI (fun k => (ar[k]?).map fun f => (f.2, (C.T f.1).sz)) s en [] ps) := by
 intro s ps
 simp only [Bool.and_eq_true, List.all_eq_true] at fp
 unfold ed
 rw [lI, b2]
 simp only
 rw [if_pos ⟨fp.1, fp.2⟩]
 cases jI (fun k => (ar[k]?).map fun f => (f.2, (C.T f.1).sz)) s en [] ps <;> rfl
def dn (place : Nat → Option (Nat × Nat)) (k : Nat) (en : List j) (os : List (Option Nat)) (r : List (Nat × j)) (o : Option Nat) : Option (Nat × Nat) → Option j → Option (j × ao) → Option (List j × ao)
 | some (off, n), some z, some (d, s1) => (match d with
   | .tuple _ => none
   | d => if d.wd = n ∧ z.wd = n ∧ j.dI (en.take k) = off then jI place s1 (en.set k d) (os ++ [o]) r else none)
 | _, _, _ => none
theorem du (place : Nat → Option (Nat × Nat)) (s : ao) (en : List j) (os : List (Option Nat)) : jI place s en os [] = some (en, s) ∧
  (∀ k a r, jI place s en os ((k, a) :: r) = dn place k en os r (j9 os a).owner (place k) en[k]? (cG s (j9 os a))) := by
 refine ⟨rfl, fun k a r => ?_⟩
 simp only [jI]
 cases cG s (j9 os a) with
 | none => cases place k <;> cases en[k]? <;> rfl
 | some p =>
   obtain ⟨d, s1⟩ := p
   cases place k with
   | none => cases en[k]? <;> rfl
   | some q => cases en[k]? <;> (cases d <;> rfl)
theorem dv : (∀ a, j9 [] a = a) ∧ (∀ o os a, j9 (o :: os) a = j9 os (jQ o a)) := ⟨fun _ => rfl, fun _ _ _ => rfl⟩
theorem cC : (∀ k n, j.owner (.int k n) = none) ∧ (∀ b, j.owner (.bool b) = none) ∧ (∀ x, j.owner (.str x) = none) ∧ (∀ x, j.owner (.slice x) = none) ∧ (∀ x, j.owner (.ref x) = none) ∧ (∀ x, j.owner (.agg x) = none) ∧ j.owner .dj = none ∧ j.owner .af = none ∧ (∀ x q, j.owner (.h x q) = some x) :=
 ⟨fun _ _ => rfl, fun _ => rfl, fun _ => rfl, fun _ => rfl, fun _ => rfl, fun _ => rfl, rfl, rfl, fun _ _ => rfl⟩
end Go.dp
