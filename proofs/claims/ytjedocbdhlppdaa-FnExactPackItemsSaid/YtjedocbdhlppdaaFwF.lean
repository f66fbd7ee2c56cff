/- Part of a proof that a law returns true for every input. No condition. -/
import Derived.Test.YtjedocbdhlppdaaFwE
import Derived.Orders
import Derived.KernelRfl
import Derived.Test.YtjedocbdhlppdaaFwA
namespace Go.b1
section
variable {C : bl} {w0 w : World} {F0 X : Nat → Prop} {n : Fr} {ρ : Nat → Value} {s s1 : ae} {a : Act} {av : j} {Q : Exit → Act → World → Prop}
def bf.un (o : bf) : bf := ⟨o.dst, o.aQ.base, o.guard⟩
theorem tN {ops : Array Oper} : ∀ {os : List Oper} {rs : List bf}, kb n ops os = some rs → os.length = rs.length ∧ ∀ (i : Nat) (o : Oper), os[i]? = some o → ∃ r, rs[i]? = some r ∧ ka n ops o = some r := by
 intro os
 induction os with
 | nil => intro rs h; simp only [kb, Option.some.injEq] at h; subst h; exact ⟨rfl, fun i o h => by simp at h⟩
 | cons o os ih =>
   intro rs h
   simp only [kb] at h
   split at h
   ·rename_i r LM U aa
    simp only [Option.some.injEq] at h; subst h
    obtain ⟨ba, bg⟩ := ih aa
    refine ⟨by simp [ba], fun i ij bo => ?_⟩
    cases i with
    | zero => simp at bo; subst bo; exact ⟨r, rfl, U⟩
    | succ i => simpa using bg i ij (by simpa using bo)
   ·cases h
theorem tO {o : Oper} {y : Nat → Option Bool} (h : o.guard = none) : Region.wanted o y = true := by simp [Region.wanted, h]
theorem C6 (h : Rel w0 F0 X n ρ s a w) {ops : Array Oper} {ay t : Nat} (bx : (ops[ay]?).bind (·.dst) = some t) :
  (∀ b, s t = .bool b → yielded ops a.tmps ay = some b) ∧ (s t = .tuple [] → yielded ops a.tmps ay = none) := by
 obtain ⟨ab, R, bb, F, S, aB⟩ := h
 have ft := aB.cb t
 refine ⟨fun b J => ?_, fun J => ?_⟩
 ·rw [J] at ft
  have aA := mg ft
  simp only [yielded, bx, Option.bind_some]
  rw [Array.getD_eq_getD_getElem?] at aA
  cases aN : a.tmps[t]? with
  | none => rw [aN] at aA; simp [undef] at aA
  | some v => rw [aN] at aA; simp at aA; subst aA; rfl
 ·rw [J] at ft
  obtain ⟨⟨arr, U, aa⟩, _⟩ := (ar.bt (d := .tuple []) rfl).1 ft
  simp only [yielded, bx, Option.bind_some]
  rw [Array.getD_eq_getD_getElem?] at U
  cases aN : a.tmps[t]? with
  | none => rfl
  | some v => rw [aN] at U; simp at U; subst U; rfl
theorem tP (aJ : C.cP) {ops : Array Oper} {ros : List bf} {l2 : List Nat} {K : ae → Prop} (aL : ∀ ah bK an, K ah → Rel w0 F0 X n ρ ah bK an → wpOps C.P ops Q l2 bK an) :
  ∀ (l : List Nat), (∀ i ∈ l, (ops[i]? = none → ros[i]? = none) ∧ ∀ o, ops[i]? = some o → ∃ r, ros[i]? = some r ∧ ka n ops o = some r.un) →
  ∀ (s : ae) (a : Act) (w : World), fV C ros s l K → Rel w0 F0 X n ρ s a w → wpOps C.P ops Q (l ++ l2) a w := by
 intro l
 induction l with
 | nil => intro _ s a w h aB; exact aL s a w h aB
 | cons i l ih =>
   intro lA s a w h aB
   replace ih := ih fun i ax => lA i (List.mem_cons_of_mem _ ax)
   rw [List.cons_append]
   simp only [wpOps]
   cases bo : ops[i]? with
   | none =>
     simp only [fV, (lA i (by simp)).1 bo] at h
     exact ih s a w h aB
   | some o =>
     obtain ⟨r, U, aa⟩ := (lA i (by simp)).2 o bo
     simp only [fV, U] at h
     show (if Region.wanted o (yielded ops a.tmps) = true then o.wp C.P a w (wpOps C.P ops Q (l ++ l2)) Q ∨ (o.asks C.P a w ∧ LetsOut Q) else wpOps C.P ops Q (l ++ l2) (a.put o.dst undef) w)
     simp only [ka] at aa
     split at aa
     ·rename_i rk
      split at aa
      ·rename_i g aN
       obtain ⟨rd, aQ, rg⟩ := r
       simp only [bf.un, Option.some.injEq, bf.mk.injEq] at aa
       obtain ⟨rfl, bq, rfl⟩ := aa
       simp only [hi] at h
       have run : ∀ (bY : ae → Prop), (∀ ah, bY ah → fV C ros ah l K) → i1 C s aQ (fun av s1 => bY (fin s1 o.dst av)) → o.wp C.P a w (wpOps C.P ops Q (l ++ l2)) Q :=
        fun bY gV hw => C3 aJ aB bq rk hw (fun ah bK an ai cD => ih ah bK an (gV ah ai) cD)
       cases nG : o.guard with
       | none =>
         rw [nG] at aN
         simp only [pO, Option.some.injEq] at aN; subst aN
         simp only at h
         rw [if_pos (tO nG)]
         exact .inl (run _ (fun _ h => h) h)
       | some tQ =>
         obtain ⟨ay, b⟩ := tQ
         rw [nG] at aN
         simp only [pO] at aN
         split at aN
         ·rename_i t aG
          simp only [Option.some.injEq] at aN; subst aN
          simp only at h
          obtain ⟨j9, pG⟩ := C6 aB aG
          have xu : ∀ (bY : fV C ros (fin s o.dst (.tuple [])) l K), wpOps C.P ops Q (l ++ l2) (a.put o.dst undef) w := fun bY => ih _ _ _ bY (Rel.skip aB rk)
          split at h
          ·rename_i c9 R
           have aY := j9 c9 R
           split at h
           ·rename_i J; subst J
            rw [if_pos (by simp [Region.wanted, nG, aY])]
            exact .inl (run _ (fun _ h => h) h)
           ·rename_i J
            rw [if_neg (by simp [Region.wanted, nG, aY, J])]
            exact xu h
          ·rename_i R
           have aY := pG R
           rw [if_neg (by simp [Region.wanted, nG, aY])]
           exact xu h
          ·exact h.elim
         ·cases aN
      ·cases aa
     ·cases aa
theorem xv (aJ : C.cP) {ops : Array Oper} {ros : List bf} (lB : kb n ops ops.toList = some (ros.map bf.un)) {K : ae → Prop} (aL : ∀ ah bK an, K ah → Rel w0 F0 X n ρ ah bK an → Q .normal bK an) :
  ∀ (l : List Nat) (s : ae) (a : Act) (w : World), fV C ros s l K → Rel w0 F0 X n ρ s a w → wpOps C.P ops Q l a w := by
 obtain ⟨aI, lA⟩ := tN lB
 intro l s a w h aB
 have := tP (Q := Q) aJ (ros := ros) (ops := ops) (l2 := []) (K := K) (n := n) (ρ := ρ) (w0 := w0) (F0 := F0) (X := X) (fun ah bK an ai cD => aL ah bK an ai cD) l (fun i _ => ⟨fun bo => by
   rw [List.getElem?_eq_none_iff, ← List.length_map (f := bf.un), ← aI]
   have := Array.getElem?_eq_none_iff.1 bo
   simpa using this, fun o bo => by
   obtain ⟨bJ, eB, aa⟩ := lA i o (by simpa using bo)
   obtain ⟨r, U, rfl⟩ : ∃ r, ros[i]? = some r ∧ r.un = bJ := by simpa using eB
   exact ⟨r, U, aa⟩⟩) s a w h aB
 rwa [List.append_nil] at this
theorem Rel.drawn (h : Rel w0 F0 X n ρ s a w) (k : Nat) : Rel w0 F0 X n ρ s a { w with drawn := k } := by
 obtain ⟨U, aa, bb, F, S, aw⟩ := h
 exact ⟨U, aa, bb, F, S, aw.grow (fun _ _ => rfl) (Nat.le_refl _) rfl rfl rfl⟩
theorem C7 (aJ : C.cP) {id : Nat} {ops : Array Oper} {ros : List bf} (lB : kb n ops ops.toList = some (ros.map bf.un)) {K : ae → Prop} (aL : ∀ ah bK an, K ah → Rel w0 F0 X n ρ ah bK an → Q .normal bK an)
  (h : gU C s ros K) (aB : Rel w0 F0 X n ρ s a w) : (Code.region id ops false).wp C.P Q a w := by
 refine wp_region (xv aJ lB aL _ s a w ?_ aB)
 have := CL C K ros [] s h
 have aI := (tN lB).1
 simp only [List.nil_append, List.length_nil, Nat.add_zero, List.map_id'] at this
 rw [List.length_map] at aI
 rw [← aI] at this
 simpa using this
end
def tR (jE : List (List Nat)) (l : List Nat) : Prop :=
 l.Nodup ∧ (∀ i, i ∈ l ↔ i < jE.length) ∧ ∀ u i v, l = u ++ i :: v → ∀ e ∈ (jE[i]?).getD [], e ∈ u
def i2 (ops : Array Oper) : List (List Nat) := ops.toList.map fun o => (o.after.toList.filter fun e => Region.binds .any e).map (·.on)
def pS (jE : List (List Nat)) : Bool := jE.zipIdx.all fun p => p.1.all fun e => decide (e < p.2)
theorem C8 {jE : List (List Nat)} (h : pS jE = true) {i : Nat} {l : List Nat} (ax : jE[i]? = some l) : ∀ e ∈ l, e < i := by
 intro e he
 simp only [pS, List.all_eq_true] at h
 have := h (l, i) (by rw [List.mem_zipIdx_iff_getElem?]; exact ax) e he
 simpa using this
theorem C9 {ops : Array Oper} (J : pS (i2 ops) = true) : ∀ (fuel t : Nat) (dx : Array Bool), dx.size = ops.size → ((List.range ops.size).filter fun i => !dx.getD i true).length ≤ fuel →
  (Region.linearise.go .any ops fuel t dx []).Nodup ∧ (∀ i, i ∈ Region.linearise.go .any ops fuel t dx [] ↔ (i < ops.size ∧ dx.getD i true = false)) ∧
   ∀ u i v, Region.linearise.go .any ops fuel t dx [] = u ++ i :: v → ∀ e ∈ ((i2 ops)[i]?).getD [], dx.getD e false = true ∨ e ∈ u := by
 intro fuel
 induction fuel with
 | zero =>
   intro t dx R aI
   have px : ((List.range ops.size).filter fun i => !dx.getD i true) = [] := List.length_eq_zero_iff.1 (Nat.le_zero.1 aI)
   refine ⟨by simp [Region.linearise.go], fun i => ?_, fun u i v h => by simp [Region.linearise.go] at h⟩
   simp only [Region.linearise.go, List.reverse_nil, List.not_mem_nil, false_iff, not_and]
   intro ax bb
   have : i ∈ ((List.range ops.size).filter fun i => !dx.getD i true) := List.mem_filter.2 ⟨List.mem_range.2 ax, by rw [bb]; rfl⟩
   rw [px] at this; cases this
 | succ fuel ih =>
   intro t dx R aI
   have xw : ∀ i, i ∈ Region.ready .any ops dx ↔ (i < ops.size ∧ dx.getD i true = false ∧ ∀ e ∈ ((i2 ops)[i]?).getD [], dx.getD e false = true) := by
    intro i
    simp only [Region.ready, List.mem_filter, List.mem_range, Bool.and_eq_true, Bool.not_eq_true']
    constructor
    ·rintro ⟨U, aa, aw⟩
     refine ⟨U, aa, ?_⟩
     rw [Array.getElem?_eq_getElem U] at aw
     simp only [Option.map_some, Option.getD_some, Array.all_eq_true_iff_forall_mem] at aw
     simp only [i2, List.getElem?_map, Array.getElem?_toList, Array.getElem?_eq_getElem U, Option.map_some, Option.getD_some, List.mem_map, List.mem_filter]
     rintro e ⟨x, ⟨aj, tS⟩, rfl⟩
     have := aw x (by simpa using aj)
     simpa [tS] using this
    ·rintro ⟨U, aa, aw⟩
     refine ⟨U, aa, ?_⟩
     rw [Array.getElem?_eq_getElem U]
     simp only [Option.map_some, Option.getD_some, Array.all_eq_true_iff_forall_mem]
     simp only [i2, List.getElem?_map, Array.getElem?_toList, Array.getElem?_eq_getElem U, Option.map_some, Option.getD_some, List.mem_map, List.mem_filter] at aw
     intro x aj
     cases tS : Region.binds .any x with
     | false => simp
     | true => simpa using aw x.on ⟨x, ⟨by simpa using aj, tS⟩, rfl⟩
   have hex : (∃ i, i < ops.size ∧ dx.getD i true = false) → Region.ready .any ops dx ≠ [] := by
    rintro ⟨i, U, aa⟩
    have : ∃ i, (i < ops.size ∧ dx.getD i true = false) ∧ ∀ ay, ay < i → ¬ (ay < ops.size ∧ dx.getD ay true = false) := by
     induction i using Nat.strongRecOn with
     | _ i C_ =>
       by_cases bx : ∃ ay, ay < i ∧ (ay < ops.size ∧ dx.getD ay true = false)
       ·obtain ⟨ay, Da, Db, Dc⟩ := bx
        exact C_ ay Da Db Dc
       ·exact ⟨i, ⟨U, aa⟩, fun ay Dd af => bx ⟨ay, Dd, af⟩⟩
    obtain ⟨k, ⟨ba, bg⟩, cy⟩ := this
    have : k ∈ Region.ready .any ops dx := (xw k).2 ⟨ba, bg, fun e he => by
     cases bs : (i2 ops)[k]? with
     | none => rw [bs] at he; simp at he
     | some l =>
       rw [bs] at he
       have cx := C8 J bs e he
       have := cy e cx
       rw [not_and] at this
       have := this (by omega)
       have tT : e < dx.size := by omega
       simp only [Array.getD_eq_getD_getElem?, Array.getElem?_eq_getElem tT, Option.getD_some] at this ⊢
       simpa using this⟩
    intro e; rw [e] at this; cases this
   have xx : Region.linearise.go .any ops (fuel + 1) t dx [] = (match (Region.ready .any ops dx)[t % (Region.ready .any ops dx).length]? with
    | some i => Region.linearise.go .any ops fuel (t / (Region.ready .any ops dx).length) (dx.setIfInBounds i true) [i]
    | none => []) := rfl
   cases pT : (Region.ready .any ops dx)[t % (Region.ready .any ops dx).length]? with
   | none =>
     have px : Region.ready .any ops dx = [] := by
      cases aB : Region.ready .any ops dx with
      | nil => rfl
      | cons a l =>
        rw [aB] at pT
        have := List.getElem?_eq_none_iff.1 pT
        have aa := Nat.mod_lt t (show 0 < (a :: l).length by simp)
        omega
     rw [xx, pT]
     refine ⟨by simp, fun i => ?_, fun u i v h => by simp at h⟩
     simp only [List.not_mem_nil, false_iff]
     intro ax
     exact hex ⟨i, ax⟩ px
   | some i =>
     have ax := (xw i).1 (List.mem_of_getElem? pT)
     obtain ⟨tU, xy, De⟩ := ax
     rw [xx, pT]
     simp only
     rw [linearise_go_acc]
     simp only [List.reverse_singleton, List.singleton_append]
     have lh : ∀ ay d, (dx.setIfInBounds i true).getD ay d = if ay = i then true else dx.getD ay d := by
      intro ay d
      split
      ·rename_i e; subst e
       simp [Array.getD_eq_getD_getElem?, Array.getElem?_setIfInBounds_self_of_lt (show ay < dx.size by omega)]
      ·rename_i e
       simp [Array.getD_eq_getD_getElem?, Array.getElem?_setIfInBounds_ne (fun h => e h.symm)]
     obtain ⟨g1, g2, g3⟩ := ih (t / (Region.ready .any ops dx).length) (dx.setIfInBounds i true) (by simpa using R) (by
      have cT : ((List.range ops.size).filter fun ay => !(dx.setIfInBounds i true).getD ay true) = ((List.range ops.size).filter fun i => !dx.getD i true).filter fun ay => decide (ay ≠ i) := by
       rw [List.filter_filter]
       apply List.filter_congr
       intro ay _
       rw [lh]
       by_cases e : ay = i <;> simp [e]
      rw [cT]
      have cx : (((List.range ops.size).filter fun i => !dx.getD i true).filter fun ay => decide (ay ≠ i)).length < ((List.range ops.size).filter fun i => !dx.getD i true).length := by
       rw [List.length_filter_lt_length_iff_exists]
       exact ⟨i, List.mem_filter.2 ⟨List.mem_range.2 tU, by rw [xy]; rfl⟩, by simp⟩
      omega)
     refine ⟨?_, fun ay => ?_, ?_⟩
     ·rw [List.nodup_cons]
      refine ⟨fun hm => ?_, g1⟩
      have := ((g2 i).1 hm).2
      rw [lh, if_pos rfl] at this; cases this
     ·rw [List.mem_cons, g2, lh]
      by_cases e : ay = i
      ·subst e; simp [tU, xy]
      ·simp [e]
     ·intro u ay v h e he
      cases u with
      | nil =>
        simp only [List.nil_append, List.cons.injEq] at h
        obtain ⟨rfl, rfl⟩ := h
        exact .inl (De e he)
      | cons rl u =>
        simp only [List.cons_append, List.cons.injEq] at h
        obtain ⟨rfl, h⟩ := h
        rcases g3 u ay v h e he with aS | aS
        ·rw [lh] at aS
         split at aS
         ·rename_i eh; subst eh; exact .inr (by simp)
         ·exact .inl aS
        ·exact .inr (by simp [aS])
theorem Df {ops : Array Oper} (J : pS (i2 ops) = true) (t : Nat) : tR (i2 ops) (Region.linearise .any ops t) := by
 have xz : ∀ i d, i < ops.size → (Array.replicate ops.size false).getD i d = false := by
  intro i d ax
  simp [Array.getD_eq_getD_getElem?, ax]
 obtain ⟨g1, g2, g3⟩ := C9 J ops.size t (Array.replicate ops.size false) (by simp) (by
  have := List.length_filter_le (fun i => !(Array.replicate ops.size false).getD i true) (List.range ops.size)
  simpa using this)
 have hlen : (i2 ops).length = ops.size := by simp [i2]
 refine ⟨g1, fun i => ?_, fun u i v h e he => ?_⟩
 ·rw [hlen]
  rw [show Region.linearise .any ops t = Region.linearise.go .any ops ops.size t (Array.replicate ops.size false) [] from rfl, g2]
  exact ⟨fun h => h.1, fun h => ⟨h, xz i true h⟩⟩
 ·rcases g3 u i v h e he with aS | aS
  ·exfalso
   by_cases xA : e < ops.size
   ·rw [xz e false xA] at aS; cases aS
   ·simp [Array.getD_eq_getD_getElem?, xA] at aS
  ·exact aS
def I : List (Nat × j) → ae
 | [], _ => .hole
 | (u, d) :: l, t => if t = u then d else I l t
mutual
inductive dn : j → j → Prop
 | refl (d : j) : dn d d
 | nH (sz : Nat) : dn .bB (.aP sz [])
 | nI : dn .bB (.slice [])
 | any (b : Bool) : dn (.bool b) .cO
 | share (d : j) : d.tree = true → (∀ vs, d ≠ .tuple vs) → (∀ o, d ≠ .b_ o) → dn d d.share
 | agg {ds es : List j} : gq ds es → dn (.agg ds) (.agg es)
 | bn {d e : j} : dn d e → dn (.bn d) (.bn e)
 | aP {sz : Nat} {ds es : List j} : gq ds es → dn (.aP sz ds) (.aP sz es)
 | tuple {ds es : List j} : gq ds es → dn (.tuple ds) (.tuple es)
 | ref {d e : j} : dn d e → dn (.ref d) (.ref e)
 | trans {d e f : j} : dn d e → dn e f → dn d f
inductive gq : List j → List j → Prop
 | nil : gq [] []
 | cons {d e : j} {ds es : List j} : dn d e → gq ds es → gq (d :: ds) (e :: es)
end
mutual
theorem dn.wd : ∀ {d e : j}, dn d e → e.wd = d.wd
 | _, _, .refl _ => rfl
 | _, _, .nH _ => rfl
 | _, _, .nI => rfl
 | _, _, .any _ => rfl
 | _, _, .share d _ _ _ => j.qJ d
 | _, _, .agg h => by simp only [j.wd]; exact gq.wd h
 | _, _, .bn _ => rfl
 | _, _, .aP _ => rfl
 | _, _, .tuple h => by simp only [j.wd]; exact gq.wd h
 | _, _, .ref _ => rfl
 | _, _, .trans h k => (dn.wd k).trans (dn.wd h)
theorem gq.wd : ∀ {ds es : List j}, gq ds es → j.cn es = j.cn ds
 | _, _, .nil => rfl
 | _, _, .cons h R => by simp only [j.cn]; rw [dn.wd h, gq.wd R]
end
theorem gq.len {ds es : List j} (h : gq ds es) : es.length = ds.length := by
 induction ds generalizing es with
 | nil => cases h; rfl
 | cons d ds ih => cases h with | cons h R => simp [ih R]
theorem gq.all {sz : Nat} {ds es : List j} (h : gq ds es) (ab : ∀ d ∈ ds, d.wd = sz) : ∀ d ∈ es, d.wd = sz := by
 induction ds generalizing es with
 | nil => cases h; intro d ab; cases ab
 | cons d ds ih =>
   cases h with
   | cons h R =>
     intro x aj
     rcases List.mem_cons.1 aj with rfl | aj
     ·rw [h.wd]; exact ab d (by simp)
     ·exact ih R (fun d hm => ab d (by simp [hm])) x aj
section
variable {w0 w : World} {F0 X F : Nat → Prop} {S : Nat → Nat → Prop} {s ah : ae} {ak : Nat → Value}
def Dg (w : World) (F : Nat → Prop) (_d e : j) (cs : List Value) (S : Nat → Prop) : Prop :=
 ∃ eJ eK : Nat → Prop, (∀ b, eJ b → S b) ∧ (∀ b, eK b → S b) ∧ (∀ b, eK b → ¬ eJ b) ∧ ∀ aT, (∀ b, F b ∨ eJ b → aT b) → ag w aT e cs eK
mutual
theorem ag.jF : ∀ {d e : j}, dn d e → ∀ {F : Nat → Prop} {cs : List Value} {S : Nat → Prop}, ag w F d cs S → Dg w F d e cs S
 | _, _, .refl _, F, cs, S, h => ⟨fun _ => False, S, fun _ h => h.elim, fun _ h => h, fun _ _ h => h, fun aT aK => ag.mono (fun b J => aK b (.inl J)) _ _ _ _ (fun _ h => h) h⟩
 | .bB, _, .nH sz, F, cs, S, h => ⟨fun _ => False, S, fun _ h => h.elim, fun _ h => h, fun _ _ h => h, fun aT aK => by simp only [ag] at h ⊢; exact .inl ⟨trivial, _, h⟩⟩
 | .bB, _, .nI, F, cs, S, h => ⟨fun _ => False, S, fun _ h => h.elim, fun _ h => h, fun _ _ h => h, fun aT aK => by simp only [ag] at h ⊢; exact .inl ⟨trivial, none, 0, h, Nat.zero_le _, fun _ => rfl⟩⟩
 | .bool _, _, .any b, F, cs, S, h => ⟨fun _ => False, S, fun _ h => h.elim, fun _ h => h, fun _ _ h => h, fun aT aK => by simp only [ag] at h ⊢; exact ⟨b, h⟩⟩
 | _, _, .share d _ _ _, F, cs, S, h => ⟨S, fun _ => False, fun _ h => h, fun _ h => h.elim, fun _ h => h.elim, fun aT aK => ag.shared (fun b J => aK b (.inl J)) d cs S (fun b J => aK b (.inr J)) h⟩
 | _, _, .agg fz, F, cs, S, h => by
   rw [ag] at h
   obtain ⟨eJ, eK, U, aa, aw, aH⟩ := aD.jF fz h
   exact ⟨eJ, eK, U, aa, aw, fun aT aK => by rw [ag]; exact aH aT aK⟩
 | _, _, .bn ab, F, cs, S, h => by
   rw [ag] at h
   obtain ⟨b, cur, ty, fr, az, ba, bg, cy, b2, cM, c0, e4⟩ := h
   obtain ⟨eJ, eK, U, aa, aw, aH⟩ := ag.jF ab cM
   refine ⟨eJ, fun c => c = b ∨ eK c, fun c af => c0 c (U c af), ?_, ?_, fun aT aK => ?_⟩
   ·rintro c (rfl | af)
    ·exact bg
    ·exact c0 c (aa c af)
   ·rintro c (rfl | af) bb
    ·exact e4 (U _ bb)
    ·exact aw c af bb
   ·rw [ag]
    exact ⟨b, cur, ty, fr, eK, ba, .inl rfl, cy, b2, aH aT aK, fun c af => .inr af, fun af => e4 (aa _ af)⟩
 | .aP sz ds, .aP _ es, .aP fz, F, cs, S, h => by
   rw [ag] at h
   have aI := fz.len
   rcases h with ⟨U, aa⟩ | ⟨b, cap, cur, ty, fr, az, ba, bg, cy, b2, cM, c0, e4, gn, hC, lk, xB⟩
   ·refine ⟨fun _ => False, S, fun _ h => h.elim, fun _ h => h, fun _ _ h => h, fun aT _ => ?_⟩
    rw [ag]
    subst U
    exact .inl ⟨List.length_eq_zero_iff.1 (by simpa using aI), aa⟩
   ·obtain ⟨eJ, eK, U, aa, aw, aH⟩ := aD.jF fz hC
    refine ⟨eJ, fun c => c = b ∨ eK c, fun c af => lk c (U c af), ?_, ?_, fun aT aK => ?_⟩
    ·rintro c (rfl | af)
     ·exact bg
     ·exact lk c (aa c af)
    ·rintro c (rfl | af) bb
     ·exact xB (U _ bb)
     ·exact aw c af bb
    ·rw [ag]
     refine .inr ⟨b, cap, cur, ty, fr, eK, by rw [aI]; exact ba, .inl rfl, cy, b2, by rw [aI]; exact cM, c0, e4, fz.all gn, by rw [aI]; exact aH aT aK, fun c af => .inr af, fun af => xB (aa _ af)⟩
 | _, _, .tuple fz, F, cs, S, h => by
   rw [ag] at h
   obtain ⟨eJ, eK, U, aa, aw, aH⟩ := aD.jF fz h
   exact ⟨eJ, eK, U, aa, aw, fun aT aK => by rw [ag]; exact aH aT aK⟩
 | _, _, .ref ab, F, cs, S, h => by
   rw [ag] at h
   obtain ⟨b, o, cu, U, aa, aw, aH⟩ := h
   obtain ⟨eJ, eK, ba, bg, cy, b2⟩ := ag.jF ab aH
   refine ⟨fun _ => False, S, fun _ h => h.elim, fun _ h => h, fun _ _ h => h, fun aT aK => ?_⟩
   rw [ag]
   exact ⟨b, o, cu, U, aK _ (.inl aa), aw, ag.mono (fun _ h => h) _ _ _ _ (fun b J => bg b J) (b2 aT fun b J => aK b (J.imp id fun h => (ba b h).elim))⟩
 | _, _, .trans ab he, F, cs, S, h => by
   obtain ⟨eJ, eK, U, aa, aw, aH⟩ := ag.jF ab h
   obtain ⟨tV, rm, ba, bg, cy, b2⟩ := ag.jF he (F := fun b => F b ∨ eJ b) (aH _ fun _ h => h)
   refine ⟨fun b => eJ b ∨ tV b, rm, ?_, fun b J => aa b (bg b J), ?_, fun aT aK => b2 aT fun b J => ?_⟩
   ·rintro b (h | h)
    ·exact U b h
    ·exact aa b (ba b h)
   ·rintro b J (h | h)
    ·exact aw b (bg b J) h
    ·exact cy b J h
   ·rcases J with (J | J) | J
    ·exact aK b (.inl J)
    ·exact aK b (.inr (.inl J))
    ·exact aK b (.inr (.inr J))
theorem aD.jF : ∀ {ds es : List j}, gq ds es → ∀ {F : Nat → Prop} {cs : List Value} {S : Nat → Prop}, aD w F ds cs S →
  ∃ eJ eK : Nat → Prop, (∀ b, eJ b → S b) ∧ (∀ b, eK b → S b) ∧ (∀ b, eK b → ¬ eJ b) ∧ ∀ aT, (∀ b, F b ∨ eJ b → aT b) → aD w aT es cs eK
 | _, _, .nil, F, cs, S, h => ⟨fun _ => False, fun _ => False, fun _ h => h.elim, fun _ h => h.elim, fun _ h => h.elim, fun aT aK => by rw [aD] at h ⊢; exact h⟩
 | _, _, .cons ab fz, F, cs, S, h => by
   rw [aD] at h
   obtain ⟨br, bC, a_, ca, rfl, g2, g3, g4, g5, g6⟩ := h
   obtain ⟨Dh, xC, bh, a2, a3, a4⟩ := ag.jF ab g2
   obtain ⟨tV, rm, hz, fs, j5, dv⟩ := aD.jF fz g3
   refine ⟨fun b => Dh b ∨ tV b, fun b => xC b ∨ rm b, ?_, ?_, ?_, fun aT aK => ?_⟩
   ·rintro b (h | h)
    ·exact g4 b (bh b h)
    ·exact g5 b (hz b h)
   ·rintro b (h | h)
    ·exact g4 b (a2 b h)
    ·exact g5 b (fs b h)
   ·rintro b (h | h) (aS | aS)
    ·exact a3 b h aS
    ·exact g6 b (a2 b h) (hz b aS)
    ·exact g6 b (bh b aS) (fs b h)
    ·exact j5 b h aS
   ·rw [aD]
    refine ⟨br, bC, xC, rm, rfl, a4 aT (fun b J => aK b (J.imp id .inl)), dv aT (fun b J => aK b (J.imp id .inr)), fun b J => .inl J, fun b J => .inr J, fun b U aa => g6 b (a2 b U) (fs b aa)⟩
end
theorem dn.rn : ∀ {d e : j}, dn d e → (∀ vs, d ≠ .tuple vs) → ∀ vs, e ≠ .tuple vs
 | _, _, .refl _, h => h
 | _, _, .nH _, _ => fun _ h => by cases h
 | _, _, .nI, _ => fun _ h => by cases h
 | _, _, .any _, _ => fun _ h => by cases h
 | _, _, .share d _ _ _, h => fun vs he => by cases d <;> first | (cases he; done) | exact h _ rfl
 | _, _, .agg _, _ => fun _ h => by cases h
 | _, _, .bn _, _ => fun _ h => by cases h
 | _, _, .aP _, _ => fun _ h => by cases h
 | _, _, .tuple _, h => fun _ _ => h _ rfl
 | _, _, .ref _, _ => fun _ h => by cases h
 | _, _, .trans h k, aL => dn.rn k (dn.rn h aL)
theorem dn.eY : ∀ {d e : j} {v : Value}, dn d e → (∀ vs, d ≠ .tuple vs) → b1.eY d v → b1.eY e v
 | _, _, _, .refl _, _, h => h
 | _, _, _, .nH _, _, h => h
 | _, _, _, .nI, _, h => h
 | _, _, _, .any _, _, h => h
 | _, _, _, .share d _ aL _, _, h => by cases d <;> first | exact h | exact (aL _ rfl).elim
 | _, _, _, .agg _, _, h => h
 | _, _, _, .bn _, _, h => h
 | _, _, _, .aP _, _, h => h
 | _, _, _, .tuple _, aL, _ => (aL _ rfl).elim
 | _, _, _, .ref _, _, h => h
 | _, _, _, .trans h k, aL, R => dn.eY k (dn.rn h aL) (dn.eY h aL R)
theorem gq.get : ∀ {ds es : List j}, gq ds es → ∀ (k : Nat) (e : j), es[k]? = some e → ∃ d, ds[k]? = some d ∧ dn d e
 | _, _, .nil, k, e, h => by simp at h
 | _, _, .cons ab R, 0, e, h => by simp at h; subst h; exact ⟨_, rfl, ab⟩
 | _, _, .cons ab R, k + 1, e, h => gq.get R k e (by simpa using h)
theorem dn.cp : ∀ {d e : j} {v : Value}, dn d e → b1.cp d v → b1.cp e v
 | _, _, _, .refl _, R => R
 | _, _, _, .nH _, R => R
 | _, _, _, .nI, R => R
 | _, _, _, .any _, R => R
 | _, _, _, .share _ _ hY _, R => tz hY R
 | _, _, _, .agg _, R => R
 | _, _, _, .bn _, R => R
 | _, _, _, .aP _, R => R
 | _, _, _, .ref _, R => R
 | _, _, _, .tuple ab, R => by
   obtain ⟨arr, U, aa, aw⟩ := R
   refine ⟨arr, U, aa.trans ab.len.symm, fun k e x he aj => ?_⟩
   obtain ⟨d, ai, hw⟩ := ab.get k e he
   obtain ⟨bh, a2, a3⟩ := aw k d x ai aj
   exact ⟨hw.eY a2 bh, hw.rn a2, a3.trans hw.wd.symm⟩
 | _, _, _, .trans h k, R => dn.cp k (dn.cp h R)
theorem dn.tree : ∀ {d e : j}, dn d e → d.tree = true → e.tree = true
 | _, _, .refl _, ab => ab
 | _, _, .nH _, _ => rfl
 | _, _, .nI, _ => rfl
 | _, _, .any _, _ => rfl
 | _, _, .share d _ _ hd, ab => by cases d <;> first | exact ab | rfl | exact (hd _ rfl).elim
 | _, _, .agg _, _ => rfl
 | _, _, .bn _, _ => rfl
 | _, _, .aP _, _ => rfl
 | _, _, .tuple _, _ => rfl
 | _, _, .ref _, _ => rfl
 | _, _, .trans h k, ab => dn.tree k (dn.tree h ab)
mutual
def j.mD : j → List Nat
 | .h x q => if q.isEmpty then [] else [x]
 | .al x _ => [x]
 | .J x _ => [x]
 | .fn _ cap => j.pU cap
 | _ => []
def j.pU : List j → List Nat
 | [] => []
 | d :: ds => d.mD ++ j.pU ds
end
def pV (s ah : ae) (x : Nat) (D : List Nat) : Prop := ah x = s x ∨ ah x = .hole ∨ ((s x).own = true ∧ (ah x).own = true ∧ x ∉ D)
theorem pV.less {s ah : ae} {x : Nat} {D E : List Nat} (h : pV s ah x D) (Di : ∀ u ∈ E, u ∈ D) : pV s ah x E := by
 rcases h with h | h | ⟨U, aa, aw⟩
 ·exact .inl h
 ·exact .inr (.inl h)
 ·exact .inr (.inr ⟨U, aa, fun aj => aw (Di x aj)⟩)
theorem ar.keep {aT : Nat → Prop} (aK : ∀ b, F b → aT b) : ∀ n, (∀ (d : j) (v : Value) (cf : Nat → Prop), SizeOf.sizeOf d ≤ n → (∀ x ∈ d.R, pV s ah x d.mD) → ar w F s ak d v cf → ar w aT ah ak d v cf) ∧
  (∀ (ds : List j) (vs : List Value), SizeOf.sizeOf ds ≤ n → (∀ x ∈ j.cE ds, pV s ah x (j.pU ds)) → ck w F s ak ds vs → ck w aT ah ak ds vs) := by
 intro n
 induction n with
 | zero =>
   refine ⟨fun d v cf a1 => ?_, fun ds vs a1 => ?_⟩
   ·cases d <;> simp at a1 <;> omega
   ·cases ds <;> simp at a1 <;> omega
 | succ n ih =>
   refine ⟨fun d v cf a1 ai h => ?_, fun ds vs a1 ai h => ?_⟩
   ·cases d with
    | hole => rw [ar]; trivial
    | h x q =>
      rw [ar] at h ⊢
      intro e cT al
      rcases ai x (by simp [j.R]) with he | he | ⟨xD, Dj, pW⟩
      ·rw [he] at cT ⊢; exact h e cT al
      ·rw [he] at cT
       cases q with
       | nil => simp only [j.sub, Option.some.injEq] at cT; subst cT; simp [j.plain] at al
       | cons k q => simp [j.sub] at cT
      ·cases q with
       | nil =>
         simp only [j.sub, Option.some.injEq] at cT
         subst cT
         obtain ⟨bH, a0, dq, eb, eN⟩ := h (s x) (by simp only [j.sub]) (kO xD).1
         simp only [bU, Option.some.injEq, Prod.mk.injEq, true_and] at dq
         exact ⟨bj (ak x), none, by simp only [bU], by rw [eb, ← dq.1], ((kO Dj).2.2.2.2.2 _).2 (((kO xD).2.2.2.2.2 _).1 eN)⟩
       | cons k q => exact (pW (by simp [j.mD])).elim
    | al x q =>
      rw [ar] at h ⊢
      intro e cT af
      rcases ai x (by simp [j.R]) with he | he | ⟨_, _, pW⟩
      ·rw [he] at cT af ⊢; exact h e cT af
      ·rw [he] at af
       cases q <;> simp [j.cY] at af
      ·exact (pW (by simp [j.mD])).elim
    | J x k =>
      rw [ar] at h ⊢
      intro al
      rcases ai x (by simp [j.R]) with he | he | ⟨_, _, pW⟩
      rotate_left 2
      ·exact (pW (by simp [j.mD])).elim
      ·rw [he] at al
       obtain ⟨b, cur, e, fr, U, aa, aw, aH⟩ := h al
       exact ⟨b, cur, e, fr, U, aK b aa, aw, aH⟩
      ·rw [he] at al; simp [j.plain] at al
    | fn f cap =>
      rw [ar] at h ⊢
      obtain ⟨arr, rfl, af⟩ := h
      exact ⟨arr, rfl, ih.2 _ _ (by simp at a1; omega) (by simpa [j.R, j.mD] using ai) af⟩
    | _ =>
      have aS := (ar.bt rfl).1 h
      exact (ar.bt rfl).2 ⟨aS.1, ag.mono aK _ _ _ _ (fun _ h => h) aS.2⟩
   ·cases ds with
    | nil => rw [ck] at h ⊢; exact h
    | cons d ds =>
      rw [ck] at h ⊢
      obtain ⟨v, fE, rfl, U, aa⟩ := h
      simp at a1
      simp only [j.cE, List.mem_append] at ai
      exact ⟨v, fE, rfl, ih.1 _ _ _ (by omega) (fun x aj => (ai x (.inl aj)).less fun u hu => by simp [j.pU, hu]) U, ih.2 _ _ (by omega) (fun x aj => (ai x (.inr aj)).less fun u hu => by simp [j.pU, hu]) aa⟩
def rp (s : ae) (l : List (Nat × j)) : Prop :=
 ∀ p ∈ l, p.2 = s p.1 ∨ ((s p.1).tree = true ∧ dn (s p.1) p.2 ∧ ∀ bA ∈ l, p.1 ∉ bA.2.R ∨ ((s p.1).own = true ∧ p.2.own = true ∧ p.1 ∉ bA.2.mD))
theorem xE : ∀ (l : List (Nat × j)) (t : Nat), I l t = .hole ∨ ∃ p ∈ l, p.1 = t ∧ I l t = p.2 := by
 intro l
 induction l with
 | nil => intro t; exact .inl rfl
 | cons p l ih =>
   intro t
   obtain ⟨u, d⟩ := p
   simp only [I]
   split
   ·rename_i e; exact .inr ⟨(u, d), by simp, e.symm, rfl⟩
   ·rcases ih t with h | ⟨p, al, h⟩
    ·exact .inl h
    ·exact .inr ⟨p, by simp [al], h⟩
theorem aZ.Dk (h : aZ w0 F0 X F S s ak w) {l : List (Nat × j)} (hw : rp s l) : ∃ aT az, aZ w0 F0 X aT az (I l) ak w := by
 have each : ∀ t, ∃ eJ eK : Nat → Prop, (∀ b, eJ b → S t b) ∧ (∀ b, eK b → S t b) ∧ (∀ b, eK b → ¬ eJ b) ∧ ∀ aT, (∀ b, F b ∨ eJ b → aT b) → ar w aT (I l) ak (I l t) (ak t) eK := by
  intro t
  rcases xE l t with e | ⟨p, al, rfl, e⟩
  ·exact ⟨fun _ => False, fun _ => False, fun _ h => h.elim, fun _ h => h.elim, fun _ h => h.elim, fun aT _ => by rw [e, ar]; trivial⟩
  ·rw [e]
   rcases hw p al with ai | ⟨aG, hO, _⟩
   ·refine ⟨fun _ => False, S p.1, fun _ h => h.elim, fun _ h => h, fun _ _ h => h, fun aT aK => ?_⟩
    rw [ai]
    refine (ar.keep (fun b J => aK b (.inl J)) (SizeOf.sizeOf (s p.1))).1 _ _ _ (Nat.le_refl _) ?_ (h.cb p.1)
    intro x aj
    rcases xE l x with eh | ⟨bA, cI, rfl, eh⟩
    ·exact .inr (.inl eh)
    ·rcases hw bA cI with hg | ⟨_, _, hd⟩
     ·exact .inl (eh.trans hg)
     ·rcases hd p al with hd | ⟨ik, jz, rb⟩
      ·exact (hd (by rw [ai]; exact aj)).elim
      ·exact .inr (.inr ⟨ik, by rw [eh]; exact jz, by rw [ai] at rb; exact rb⟩)
   ·obtain ⟨g1, g2⟩ := (ar.bt aG).1 (h.cb p.1)
    obtain ⟨eJ, eK, ba, bg, cy, b2⟩ := ag.jF hO g2
    exact ⟨eJ, eK, ba, bg, cy, fun aT aK => (ar.bt (hO.tree aG)).2 ⟨hO.cp g1, b2 aT aK⟩⟩
 have br := fun t => (each t).choose_spec
 let eJ := fun t => (each t).choose
 have bC := fun t => (br t).choose_spec
 let eK := fun t => (br t).choose
 have eP : ∀ t b, eJ t b → S t b := fun t => (bC t).1
 have ee : ∀ t b, eK t b → S t b := fun t => (bC t).2.1
 have gh : ∀ t b, eK t b → ¬ eJ t b := fun t => (bC t).2.2.1
 have fG := fun t => (bC t).2.2.2
 refine ⟨fun b => F b ∨ ∃ t, eJ t b, eK, fun b J => .inl (h.ei b J), ?_, ?_, fun t b J => h.cL t b (ee t b J), ?_, fun t u b cj J hu => h.de t u b cj (ee t b J) (ee u b hu), fun t b J => h.cf t b (ee t b J), ?_, h.old, h.size, h.os, h.tape, h.output⟩
 ·rintro b (J | ⟨t, J⟩)
  ·exact h.eD b J
  ·exact .inr (h.cf t b (eP t b J))
 ·rintro b (J | ⟨t, J⟩)
  ·exact h.c6 b J
  ·exact h.cL t b (eP t b J)
 ·rintro t b J (bb | ⟨u, hu⟩)
  ·exact h.dk t b (ee t b J) bb
  ·by_cases e : t = u
   ·subst e; exact gh t b J hu
   ·exact h.de t u b e (ee t b J) (eP u b hu)
 ·intro t
  exact fG t _ (fun b J => J.imp id fun h => ⟨t, h⟩)
end
inductive ao where
 | skip
 | aE (ros : List bf) (keep : Option (List Nat))
 | gr (ros : List bf) (jE : List (List Nat)) (keep : Option (List Nat))
 | seq (a b : ao)
 | cond (c : aq) (a b : ao)
 | block (id : Nat) (b : ao)
 | loop (b : ao)
 | exit (id : Nat)
 | ret
 | fW (T : (Exit → ae → Prop) → ae → Prop) (b : ao)
def cz (n : Fr) : Code → Option ao
 | .skip => some .skip
 | .region _ ops false => (kb n ops ops.toList).map fun r => .aE r none
 | .region _ ops true => if pS (i2 ops) = true then (kb n ops ops.toList).map fun r => .gr r (i2 ops) none else none
 | .seq a b => match cz n a, cz n b with
   | some a, some b => some (.seq a b)
   | _, _ => none
 | .cond c a b => match cg c, cz n a, cz n b with
   | some c, some a, some b => some (.cond c a b)
   | _, _, _ => none
 | .block id b => (cz n b).map (.block id)
 | .loop b => (cz n b).map .loop
 | .exit id => some (.exit id)
 | .ret => some .ret
 | _ => none
def ao.gW : ao → ao
 | .aE ros _ => .aE ros none
 | .gr ros dX _ => .gr ros dX none
 | .seq a b => .seq a.gW b.gW
 | .cond c a b => .cond c a.gW b.gW
 | .block id b => .block id b.gW
 | .loop b => .loop b.gW
 | .fW T b => .fW T b.gW
 | c => c
def ao.strip : ao → ao
 | .aE ros _ => .aE (ros.map bf.un) none
 | .gr ros dX _ => .gr (ros.map bf.un) dX none
 | .seq a b => .seq a.strip b.strip
 | .cond c a b => .cond c a.strip b.strip
 | .block id b => .block id b.strip
 | .loop b => .loop b.strip
 | .fW _ b => b.strip
 | c => c
theorem ao.xF : ∀ c : ao, c.gW.strip = c.strip := by
 intro c
 induction c with
 | seq a b fX fY => simp only [ao.gW, ao.strip, fX, fY]
 | cond c a b fX fY => simp only [ao.gW, ao.strip, fX, fY]
 | block id b ih => simp only [ao.gW, ao.strip, ih]
 | loop b ih => simp only [ao.gW, ao.strip, ih]
 | fW T b ih => simp only [ao.gW, ao.strip, ih]
 | _ => rfl
def ao.bare (H : ((Exit → ae → Prop) → ae → Prop) → ao → Prop) : ao → Prop
 | .aE _ k => k = none
 | .gr _ _ k => k = none
 | .seq a b => a.bare H ∧ b.bare H
 | .cond _ a b => a.bare H ∧ b.bare H
 | .block _ b => b.bare H
 | .loop b => b.bare H
 | .fW T b => H T b
 | _ => True
def ao.ke (H : ((Exit → ae → Prop) → ae → Prop) → ao → Prop) : ao → Prop
 | .seq a b => a.ke H ∧ b.ke H
 | .cond _ a b => a.ke H ∧ b.ke H
 | .block _ b => b.ke H
 | .loop b => b.ke H
 | .fW T b => H T b.gW
 | _ => True
theorem ao.xG {H : ((Exit → ae → Prop) → ae → Prop) → ao → Prop} : ∀ c : ao, c.ke H → c.gW.bare H := by
 intro c
 induction c with
 | seq a b fX fY => intro h; exact ⟨fX h.1, fY h.2⟩
 | cond c a b fX fY => intro h; exact ⟨fX h.1, fY h.2⟩
 | block id b ih => intro h; exact ih h
 | loop b ih => intro h; exact ih h
 | aE => intro _; rfl
 | gr => intro _; rfl
 | fW T b _ => intro h; exact h
 | _ => intro _; trivial
def ao.plain : ao → Bool
 | .seq a b => a.plain && b.plain
 | .cond _ a b => a.plain && b.plain
 | .block _ b => b.plain
 | .loop b => b.plain
 | .fW _ _ => false
 | _ => true
theorem ao.Dl {H : ((Exit → ae → Prop) → ae → Prop) → ao → Prop} : ∀ c : ao, c.plain = true → c.ke H := by
 intro c
 induction c with
 | seq a b fX fY => intro h; simp only [ao.plain, Bool.and_eq_true] at h; exact ⟨fX h.1, fY h.2⟩
 | cond c a b fX fY => intro h; simp only [ao.plain, Bool.and_eq_true] at h; exact ⟨fX h.1, fY h.2⟩
 | block id b ih => intro h; exact ih h
 | loop b ih => intro h; exact ih h
 | fW T b _ => intro h; cases h
 | _ => intro _; trivial
def andThen (K : ae → Prop) (Q : Exit → ae → Prop) : Exit → ae → Prop
 | .normal, s => K s
 | e, s => Q e s
def nJ (id : Nat) (Q : Exit → ae → Prop) : Exit → ae → Prop
 | .exit i, s => if i = id then Q .normal s else Q (.exit i) s
 | e, s => Q e s
def dA (K : ae → Prop) (s : ae) : Prop := K s ∨ ∃ l, rp s l ∧ K (I l)
def pX : Option (List Nat) → (ae → Prop) → ae → Prop
 | none, K, s => dA K s
 | some k, K, s => K (I (k.map fun t => (t, s t)))
def b9 (C : bl) : ao → (Exit → ae → Prop) → ae → Prop
 | .skip, Q, s => Q .normal s
 | .aE ros keep, Q, s => gU C s ros (pX keep (Q .normal))
 | .gr ros jE keep, Q, s => ∀ l, tR jE l → fV C ros s l (pX keep (Q .normal))
 | .seq a b, Q, s => b9 C a (andThen (dA (b9 C b Q)) Q) s
 | .cond c a b, Q, s => match au s c with
   | .bool c9 => if c9 = true then b9 C a Q s else b9 C b Q s
   | .cO => b9 C a Q s ∧ b9 C b Q s
   | _ => False
 | .block id b, Q, s => b9 C b (nJ id Q) s
 | .loop b, Q, s => dA (fun s => ∀ Z : ae → Prop, (∀ ah, b9 C b (andThen (dA Z) Q) ah → Z ah) → Z s) s
 | .exit id, Q, s => Q (.exit id) s
 | .ret, Q, s => Q .ret s
 | .fW T _, Q, s => ∀ cF : Exit → ae → Prop, (∀ e s, Q e s → cF e s) → T cF s
section
variable {C : bl}
theorem tW {s : ae} {o : bf} {K bY : ae → Prop} (h : hi C s o K) (ai : ∀ s, K s → bY s) : hi C s o bY := by
 unfold hi at h ⊢
 split
 ·rename_i aN; rw [aN] at h; exact rj h fun av s1 => ai _
 ·rename_i t b aN
  rw [aN] at h
  simp only at h
  split
  ·rename_i c9 R
   rw [R] at h
   simp only at h
   split
   ·rename_i J; rw [if_pos J] at h; exact rj h fun av s1 => ai _
   ·rename_i J; rw [if_neg J] at h; exact ai _ h
  ·rename_i R; rw [R] at h; exact ai _ h
  ·rename_i U aa
   split at h
   ·exact U _ (by assumption)
   ·exact aa (by assumption)
   ·exact h
theorem xH {K bY : ae → Prop} (ai : ∀ s, K s → bY s) : ∀ {ros : List bf} {s : ae}, gU C s ros K → gU C s ros bY := by
 intro ros
 induction ros with
 | nil => intro s h; exact ai s h
 | cons o ros ih => intro s h; exact tW h fun s h => ih h
theorem xI {ros : List bf} {K bY : ae → Prop} (ai : ∀ s, K s → bY s) : ∀ {l : List Nat} {s : ae}, fV C ros s l K → fV C ros s l bY := by
 intro l
 induction l with
 | nil => intro s h; exact ai s h
 | cons i l ih =>
   intro s h
   simp only [fV] at h ⊢
   split
   ·rename_i bo; rw [bo] at h; exact ih h
   ·rename_i o bo; rw [bo] at h; exact tW h fun s h => ih h
theorem nK {K bY : ae → Prop} (ai : ∀ s, K s → bY s) (s : ae) (h : dA K s) : dA bY s :=
 h.imp (ai s) fun ⟨l, U, aa⟩ => ⟨l, U, ai _ aa⟩
theorem xJ {keep : Option (List Nat)} {K bY : ae → Prop} (ai : ∀ s, K s → bY s) (s : ae) (h : pX keep K s) : pX keep bY s := by
 cases keep with
 | none => exact nK ai s h
 | some k => exact ai _ h
theorem xK {keep : Option (List Nat)} {K : ae → Prop} {s : ae} (h : pX keep K s) : dA K s := by
 cases keep with
 | none => exact h
 | some k =>
   refine .inr ⟨_, ?_, h⟩
   intro p al
   obtain ⟨t, _, rfl⟩ := List.mem_map.1 al
   exact .inl rfl
theorem tX {K bY : ae → Prop} {Q cF : Exit → ae → Prop} (ai : ∀ s, K s → bY s) (bR : ∀ e s, Q e s → cF e s) : ∀ e s, andThen K Q e s → andThen bY cF e s := by
 intro e s h
 cases e with
 | normal => exact ai s h
 | _ => exact bR _ s h
theorem xL : ∀ (c : ao) {Q cF : Exit → ae → Prop} {s : ae}, (∀ e s, Q e s → cF e s) → b9 C c Q s → b9 C c cF s := by
 intro c
 induction c with
 | skip => intro Q cF s bR h; exact bR _ _ h
 | aE ros keep => intro Q cF s bR h; exact xH (xJ (bR _)) h
 | gr ros jE keep => intro Q cF s bR h l aI; exact xI (xJ (bR _)) (h l aI)
 | seq a b fX fY =>
   intro Q cF s bR h
   exact fX (tX (fun s h => nK (fun _ h => fY bR h) s h) bR) h
 | cond c a b fX fY =>
   intro Q cF s bR h
   simp only [b9] at h ⊢
   split
   ·rename_i c9 J
    rw [J] at h
    simp only at h
    split
    ·rename_i e; rw [if_pos e] at h; exact fX bR h
    ·rename_i e; rw [if_neg e] at h; exact fY bR h
   ·rename_i J; rw [J] at h; exact ⟨fX bR h.1, fY bR h.2⟩
   ·rename_i U aa
    split at h
    ·exact U _ (by assumption)
    ·exact aa (by assumption)
    ·exact h
 | block id b ih =>
   intro Q cF s bR h
   refine ih ?_ h
   intro e s h
   cases e with
   | exit i =>
     simp only [nJ] at h ⊢
     split
     ·rename_i e; rw [if_pos e] at h; exact bR _ _ h
     ·rename_i e; rw [if_neg e] at h; exact bR _ _ h
   | _ => exact bR _ _ h
 | loop b ih =>
   intro Q cF s bR h
   refine nK (fun s h Z nL => ?_) s h
   exact h Z fun ah dY => nL ah (ih (tX (fun _ h => h) bR) dY)
 | exit id => intro Q cF s bR h; exact bR _ _ h
 | ret => intro Q cF s bR h; exact bR _ _ h
 | fW T b _ => intro Q cF s bR h i3 aa; exact h i3 fun e s he => aa e s (bR e s he)
theorem xM : ∀ (c : ao) {Q : Exit → ae → Prop} {s : ae}, b9 C c Q s → b9 C c.gW Q s := by
 intro c
 induction c with
 | aE ros keep => intro Q s h; exact xH (fun s h => xK h) h
 | gr ros dX keep => intro Q s h l aI; exact xI (fun s h => xK h) (h l aI)
 | seq a b fX fY => intro Q s h; exact fX (xL a (tX (fun s h => nK (fun _ h => fY h) s h) (fun _ _ h => h)) h)
 | cond c a b fX fY =>
   intro Q s h
   simp only [ao.gW, b9] at h ⊢
   split
   ·rename_i c9 J
    rw [J] at h
    simp only at h
    split
    ·rename_i e; rw [if_pos e] at h; exact fX h
    ·rename_i e; rw [if_neg e] at h; exact fY h
   ·rename_i J; rw [J] at h; exact ⟨fX h.1, fY h.2⟩
   ·rename_i U aa
    split at h
    ·exact U _ (by assumption)
    ·exact aa (by assumption)
    ·exact h
 | block id b ih => intro Q s h; exact ih h
 | loop b ih =>
   intro Q s h
   refine nK (fun s h Z nL => ?_) s h
   exact h Z fun ah dY => nL ah (ih dY)
 | fW T b _ => intro Q s h; exact h
 | _ => intro Q s h; exact h
variable {w0 w : World} {F0 X : Nat → Prop} {n : Fr} {ρ : Nat → Value} {s : ae} {a : Act}
def nM (w0 : World) (F0 X : Nat → Prop) (n : Fr) (ρ : Nat → Value) (Q : Exit → ae → Prop) : Exit → Act → World → Prop := fun e a w => ∃ s, Q e s ∧ Rel w0 F0 X n ρ s a w
theorem Rel.dA {K : ae → Prop} {s : ae} {a : Act} {w : World} (aB : Rel w0 F0 X n ρ s a w) (h : dA K s) : ∃ ah, K ah ∧ Rel w0 F0 X n ρ ah a w := by
 rcases h with h | ⟨l, U, aa⟩
 ·exact ⟨s, h, aB⟩
 ·obtain ⟨g1, g2, g3, F, S, g4⟩ := aB
  obtain ⟨aT, az, g5⟩ := g4.Dk U
  exact ⟨I l, aa, g1, g2, g3, aT, az, g5⟩
theorem ao.Dm {c : ao} (h : c.strip = .skip) : c = .skip ∨ ∃ T b, c = .fW T b := by cases c <;> first | exact .inl rfl | exact .inr ⟨_, _, rfl⟩ | cases h
theorem ao.Dn {c : ao} (h : c.strip = .ret) : c = .ret ∨ ∃ T b, c = .fW T b := by cases c <;> first | exact .inl rfl | exact .inr ⟨_, _, rfl⟩ | cases h
theorem ao.Dp {c : ao} {i : Nat} (h : c.strip = .exit i) : c = .exit i ∨ ∃ T b, c = .fW T b := by cases c <;> first | exact .inl h | exact .inr ⟨_, _, rfl⟩ | cases h
theorem ao.Dq {c : ao} {r : List bf} {k : Option (List Nat)} (h : c.strip = .aE r k) : (∃ ros ct, c = .aE ros ct ∧ ros.map bf.un = r) ∨ ∃ T b, c = .fW T b := by
 cases c <;> first | (cases h; exact .inl ⟨_, _, rfl, rfl⟩) | exact .inr ⟨_, _, rfl⟩ | cases h
theorem ao.Dr {c : ao} {r : List bf} {dX : List (List Nat)} {k : Option (List Nat)} (h : c.strip = .gr r dX k) : (∃ ros xN ct, c = .gr ros xN ct ∧ ros.map bf.un = r ∧ xN = dX) ∨ ∃ T b, c = .fW T b := by
 cases c <;> first | (cases h; exact .inl ⟨_, _, _, rfl, rfl, rfl⟩) | exact .inr ⟨_, _, rfl⟩ | cases h
theorem ao.Ds {c x y : ao} (h : c.strip = .seq x y) : (∃ a b, c = .seq a b ∧ a.strip = x ∧ b.strip = y) ∨ ∃ T b, c = .fW T b := by
 cases c <;> first | (cases h; exact .inl ⟨_, _, rfl, rfl, rfl⟩) | exact .inr ⟨_, _, rfl⟩ | cases h
theorem ao.Dt {c x y : ao} {o : aq} (h : c.strip = .cond o x y) : (∃ ij a b, c = .cond ij a b ∧ ij = o ∧ a.strip = x ∧ b.strip = y) ∨ ∃ T b, c = .fW T b := by
 cases c <;> first | (cases h; exact .inl ⟨_, _, _, rfl, rfl, rfl, rfl⟩) | exact .inr ⟨_, _, rfl⟩ | cases h
theorem ao.Du {c x : ao} {i : Nat} (h : c.strip = .block i x) : (∃ a, c = .block i a ∧ a.strip = x) ∨ ∃ T b, c = .fW T b := by
 cases c <;> first | (cases h; exact .inl ⟨_, rfl, rfl⟩) | exact .inr ⟨_, _, rfl⟩ | cases h
theorem ao.Dv {c x : ao} (h : c.strip = .loop x) : (∃ a, c = .loop a ∧ a.strip = x) ∨ ∃ T b, c = .fW T b := by
 cases c <;> first | (cases h; exact .inl ⟨_, rfl, rfl⟩) | exact .inr ⟨_, _, rfl⟩ | cases h
theorem xO (aJ : C.cP) {H : ((Exit → ae → Prop) → ae → Prop) → ao → Prop}
  (kR : ∀ (c : Code) (T : (Exit → ae → Prop) → ae → Prop) (b : ao) (Q : Exit → ae → Prop) (s : ae) (a : Act) (w : World), H T b → cz n c = some b.strip → T Q s → Rel w0 F0 X n ρ s a w → c.wp C.P (nM w0 F0 X n ρ Q) a w) :
  ∀ (c : Code) {c2 : ao} {Q : Exit → ae → Prop} {s : ae} {a : Act} {w : World}, cz n c = some c2.strip → c2.bare H → b9 C c2 Q s → Rel w0 F0 X n ρ s a w → c.wp C.P (nM w0 F0 X n ρ Q) a w := by
 intro c
 induction c with
 | skip =>
   intro c2 Q s a w R eE h aB
   have gE := R
   simp only [cz, Option.some.injEq] at R
   rcases ao.Dm R.symm with rfl | ⟨T, b, rfl⟩
   ·exact wp_skip ⟨s, h, aB⟩
   ·exact kR _ T b Q s a w eE (by simpa only [ao.strip] using gE) (h Q fun _ _ h => h) aB
 | region id ops draw =>
   intro c2 Q s a w R eE h aB
   have gE := R
   cases draw with
   | false =>
     simp only [cz, Option.map_eq_some_iff] at R
     obtain ⟨Dw, pY, R⟩ := R
     rcases ao.Dq R.symm with ⟨ros, k, rfl, rfl⟩ | ⟨T, b, rfl⟩
     rotate_left
     ·exact kR _ T b Q s a w eE (by simpa only [ao.strip] using gE) (h Q fun _ _ h => h) aB
     cases eE
     exact C7 aJ pY (fun ah bK an ai cD => cD.dA ai) h aB
   | true =>
     simp only [cz] at R
     split at R
     ·rename_i J
      simp only [Option.map_eq_some_iff] at R
      obtain ⟨Dw, pY, R⟩ := R
      rcases ao.Dr R.symm with ⟨ros, dX, k, rfl, rfl, rfl⟩ | ⟨T, b, rfl⟩
      rotate_left
      ·exact kR _ T b Q s a w eE (by simpa only [ao.strip] using gE) (h Q fun _ _ h => h) aB
      cases eE
      refine wp_region_draw fun t => ?_
      rw [show Region.schedule (C.P.follows .mixedOrders) ops t = Region.linearise .any ops t by simp [Region.schedule, aJ.mixed]]
      exact xv aJ pY (fun ah bK an ai cD => cD.dA ai) _ s a _ (h _ (Df J t)) (aB.drawn _)
     ·cases R
 | seq x y Dx rq =>
   intro c2 Q s a w R eE h aB
   have gE := R
   simp only [cz] at R
   split at R
   ·rename_i pB Dy aj aY
    simp only [Option.some.injEq] at R
    rcases ao.Ds R.symm with ⟨cl, gy, rfl, rfl, rfl⟩ | ⟨T, b, rfl⟩
    rotate_left
    ·exact kR _ T b Q s a w eE (by simpa only [ao.strip] using gE) (h Q fun _ _ h => h) aB
    refine wp_seq (wp_mono (Dx aj eE.1 h aB) ?_)
    rintro e bK an ⟨ah, aS, cD⟩
    cases e with
    | normal =>
      obtain ⟨ah, aS, cD⟩ := cD.dA aS
      exact rq aY eE.2 aS cD
    | _ => exact ⟨ah, aS, cD⟩
   ·cases R
 | cond x y z rq xP =>
   intro c2 Q s a w R eE h aB
   have gE := R
   simp only [cz] at R
   split at R
   ·rename_i pB Dy sz aj aY a1
    simp only [Option.some.injEq] at R
    rcases ao.Dt R.symm with ⟨cl, gy, lf, rfl, rfl, rfl, rfl⟩ | ⟨T, b, rfl⟩
    rotate_left
    ·exact kR _ T b Q s a w eE (by simpa only [ao.strip] using gE) (h Q fun _ _ h => h) aB
    have cD := aB
    obtain ⟨ab, cB, bb, F, S, kQ⟩ := cD
    have aA := (c_ (a := a) kQ (fun _ => rfl) aj).2
    simp only [b9] at h
    split at h
    ·rename_i c9 J
     rw [J] at aA
     have := mg aA
     refine wp_cond this ?_
     split
     ·rename_i e; rw [if_pos e] at h; exact rq aY eE.1 h aB
     ·rename_i e; rw [if_neg e] at h; exact xP a1 eE.2 h aB
    ·rename_i J
     rw [J] at aA
     obtain ⟨c9, ht⟩ := v8 aA
     refine wp_cond ht ?_
     split
     ·exact rq aY eE.1 h.1 aB
     ·exact xP a1 eE.2 h.2 aB
    ·exact h.elim
   ·cases R
 | block id b ih =>
   intro c2 Q s a w R eE h aB
   have gE := R
   simp only [cz, Option.map_eq_some_iff] at R
   obtain ⟨q3, J, R⟩ := R
   rcases ao.Du R.symm with ⟨c9, rfl, rfl⟩ | ⟨T, b, rfl⟩
   rotate_left
   ·exact kR _ T b Q s a w eE (by simpa only [ao.strip] using gE) (h Q fun _ _ h => h) aB
   refine wp_block (wp_mono (ih J eE h aB) ?_)
   rintro e bK an ⟨ah, aS, cD⟩
   cases e with
   | exit i =>
     simp only [nJ] at aS
     simp only [Exit.inBlock]
     split
     ·rename_i e; rw [if_pos e] at aS; exact ⟨ah, aS, cD⟩
     ·rename_i e; rw [if_neg e] at aS; exact ⟨ah, aS, cD⟩
   | _ => exact ⟨ah, aS, cD⟩
 | loop b ih =>
   intro c2 Q s a w R eE h aB
   have gE := R
   simp only [cz, Option.map_eq_some_iff] at R
   obtain ⟨q3, J, R⟩ := R
   rcases ao.Dv R.symm with ⟨c9, rfl, rfl⟩ | ⟨T, b, rfl⟩
   rotate_left
   ·exact kR _ T b Q s a w eE (by simpa only [ao.strip] using gE) (h Q fun _ _ h => h) aB
   obtain ⟨s, h, aB⟩ := aB.dA h
   have key := h (fun s => ∀ a w, Rel w0 F0 X n ρ s a w → ∀ (f : Frame) (k : List Item) (cs : List Frame), ∃ e bK an, nM w0 F0 X n ρ Q e bK an ∧ Arrives C.P (lone (f.at a (.code b :: .inLoop b :: k)) cs w) f k cs e bK an) ?_
   ·intro f k cs
    obtain ⟨e, bK, an, bR, lC⟩ := key a w aB f k cs
    exact ⟨e, bK, an, bR, .of_steps (.one step_loop) lC⟩
   ·intro ah dY a w aB f k cs
    obtain ⟨e, a₁, w₁, ⟨s1, bR, lD⟩, lC⟩ := ih J eE dY aB f (.inLoop b :: k) cs
    cases e with
    | normal =>
      simp only [andThen] at bR
      obtain ⟨s1, bR, lD⟩ := lD.dA bR
      obtain ⟨e₂, a₂, w₂, hq₂, harr₂⟩ := bR a₁ w₁ lD f k cs
      exact ⟨e₂, a₂, w₂, hq₂, .of_steps (Steps.trans lC (.one step_inLoop)) harr₂⟩
    | exit id => exact ⟨_, a₁, w₁, ⟨s1, bR, lD⟩, .pass (x := .inLoop b) rfl (fun _ _ => .inl (by simp)) lC⟩
    | goto l => exact ⟨_, a₁, w₁, ⟨s1, bR, lD⟩, .pass (x := .inLoop b) rfl (fun _ _ => .inl (by simp)) lC⟩
    | ret => exact ⟨_, a₁, w₁, ⟨s1, bR, lD⟩, .pass (x := .inLoop b) rfl (fun _ _ => .inl (by simp)) lC⟩
    | panic LN => exact ⟨_, a₁, w₁, ⟨s1, bR, lD⟩, .pass (x := .inLoop b) rfl (fun _ _ => .inl (by simp)) lC⟩
    | outgrown => exact ⟨_, a₁, w₁, ⟨s1, bR, lD⟩, .pass (x := .inLoop b) rfl (fun _ _ => .inl (by simp)) lC⟩
 | exit id =>
   intro c2 Q s a w R eE h aB
   have gE := R
   simp only [cz, Option.some.injEq] at R
   rcases ao.Dp R.symm with rfl | ⟨T, b, rfl⟩
   ·exact wp_exit ⟨s, h, aB⟩
   ·exact kR _ T b Q s a w eE (by simpa only [ao.strip] using gE) (h Q fun _ _ h => h) aB
 | ret =>
   intro c2 Q s a w R eE h aB
   have gE := R
   simp only [cz, Option.some.injEq] at R
   rcases ao.Dn R.symm with rfl | ⟨T, b, rfl⟩
   ·exact wp_ret ⟨s, h, aB⟩
   ·exact kR _ T b Q s a w eE (by simpa only [ao.strip] using gE) (h Q fun _ _ h => h) aB
 | _ => intro c2 Q s a w R; simp [cz] at R
theorem Dz (aJ : C.cP) (c : Code) {c2 : ao} {Q : Exit → ae → Prop} {s : ae} {a : Act} {w : World} (R : cz n c = some c2.strip) (J : c2.bare (fun _ _ => False)) (h : b9 C c2 Q s) (aB : Rel w0 F0 X n ρ s a w) : c.wp C.P (nM w0 F0 X n ρ Q) a w :=
 xO aJ (fun _ _ _ _ _ _ _ bb => bb.elim) c R J h aB
end
def gF : ResultVar → Nat
 | .tmp t => t
 | .cell a _ => a
def kS (C : bl) (s : ae) : ResultVar → Option j
 | .tmp t => if (s t).tree = true then (match s t with | .tuple _ => none | d => some d) else none
 | .cell a T => match s a with
   | .bn d => if fits C T d = true ∧ d.tree = true then some d else none
   | _ => none
def Ends (C : bl) (fx : List Nat) (dJ : List ResultVar) (r : j) (outs : List j) (s : ae) : Prop :=
 ∃ ds, dJ.map (kS C s) = ds.map some ∧ r = (match ds with | [d] => d | ds => .tuple ds) ∧ (dJ.map gF).Nodup ∧
   ∀ (i : Nat) (o : j), outs[i]? = some o → o = .hole ∨ (o = s i ∧ o.dQ = true ∧ i ∈ fx ∧ i ∉ dJ.map gF)
section
variable {C : bl} {w0 w : World} {F0 X F : Nat → Prop} {S : Nat → Nat → Prop} {s : ae} {tmps : Array Value}
theorem xQ {d : j} {x : Value} (ab : ∀ vs, d ≠ .tuple vs) (h : cp d x) : bj x = eS x ∧ eY d x := by
 have : eY d x := by cases d <;> first | exact h | exact (ab _ rfl).elim
 refine ⟨?_, this⟩
 cases d <;> first
  | (obtain ⟨a, rfl⟩ := this; rfl)
  | (simp only [eY] at this
     rw [dM this]
     cases x <;> first | rfl | (simp [Value.dF] at this))
def pZ (tmps : Array Value) : ResultVar → Sem Value
 | .tmp t => pure (tmps.getD t undef)
 | .cell a t => do loadVar t (← asAddr (tmps.getD a undef))
theorem DA (aJ : C.cP) (h : aZ w0 F0 X F S s (fun t => tmps.getD t undef) w) {v : ResultVar} {d : j} (aA : kS C s v = some d) :
  ∃ x, (pZ tmps v).run C.P w = .ok x w ∧ d.tree = true ∧ (∀ vs, d ≠ .tuple vs) ∧ cp d x ∧ ag w F d (bj x) (S (gF v)) := by
 cases v with
 | tmp t =>
   simp only [kS] at aA
   split at aA
   ·rename_i aG
    have hY : (∀ vs, s t ≠ .tuple vs) ∧ d = s t := by
     cases R : s t <;> rw [R] at aA <;> simp only at aA <;> first
      | (cases aA; done)
      | (simp only [Option.some.injEq] at aA; exact ⟨(fun _ h => by cases h), aA.symm⟩)
    obtain ⟨hY, rfl⟩ := hY
    obtain ⟨g1, g2⟩ := (ar.bt aG).1 (h.cb t)
    exact ⟨_, by simp [pZ], aG, hY, g1, g2⟩
   ·cases aA
 | cell a T =>
   simp only [kS] at aA
   split at aA
   ·rename_i e R
    split at aA
    ·rename_i DB
     obtain ⟨eH, DC⟩ := DB
     simp only [Option.some.injEq] at aA; subst aA
     have ft := h.cb a
     rw [R] at ft
     obtain ⟨g1, g2⟩ := (ar.bt (d := .bn e) rfl).1 ft
     rw [dM g1, ag] at g2
     obtain ⟨b, cur, ty, fr, az, ba, bg, cy, b2, cM, c0, e4⟩ := g2
     simp only [List.cons.injEq, and_true] at ba
     have fN : eA w b 0 cur.toList := by
      have := nd cy cur.size
      rwa [List.take_of_length_le (by simp)] at this
     obtain ⟨x, c5, cr, fP⟩ := qU (C := C) aJ fN cM eH
     refine ⟨x, ?_, DC, ?_, fP, ?_⟩
     ·simp only [pZ]
      rw [ba]
      simpa [asAddr] using c5
     ·intro vs eh; subst eh
      unfold fits at eH
      split at eH <;> simp_all
     ·rw [cr]; exact ag.mono (fun _ h => h) _ _ _ _ c0 cM
    ·cases aA
   ·cases aA
theorem DD (aJ : C.cP) (h : aZ w0 F0 X F S s (fun t => tmps.getD t undef) w) : ∀ (dJ : List ResultVar) (ds : List j), dJ.map (kS C s) = ds.map some → (dJ.map gF).Nodup →
  ∃ xs, (dJ.mapM (pZ tmps)).run C.P w = .ok xs w ∧ xs.length = ds.length ∧ aD w F ds (xs.flatMap eS) (fun b => ∃ t ∈ dJ.map gF, S t b) ∧
    ∀ (k : Nat) (d : j) (x : Value), ds[k]? = some d → xs[k]? = some x → cp d x ∧ (∀ vs, d ≠ .tuple vs) ∧ (eS x).length = d.wd ∧ bj x = eS x ∧ d.tree = true := by
 intro dJ
 induction dJ with
 | nil =>
   intro ds he _
   have : ds = [] := by simpa using he.symm
   subst this
   exact ⟨[], by simp, rfl, by simp only [List.flatMap_nil]; rw [aD], fun k d x ab => by simp at ab⟩
 | cons v dJ ih =>
   intro ds he nN
   cases ds with
   | nil => simp at he
   | cons d ds =>
     simp only [List.map_cons, List.cons.injEq] at he
     simp only [List.map_cons, List.nodup_cons] at nN
     obtain ⟨x, c5, rt, cr, fP, fQ⟩ := DA aJ h he.1
     obtain ⟨xs, eP, ee, gh, fG⟩ := ih ds he.2 nN.2
     obtain ⟨aC, aF⟩ := xQ cr fP
     refine ⟨x :: xs, by simp [List.mapM_cons, c5, eP], by simp [ee], ?_, ?_⟩
     ·simp only [List.flatMap_cons]
      rw [aD]
      rw [aC] at fQ
      refine ⟨eS x, xs.flatMap eS, S (gF v), fun b => ∃ t ∈ dJ.map gF, S t b, rfl, fQ, gh, fun b J => ⟨gF v, by simp, J⟩, ?_, ?_⟩
      ·rintro b ⟨t, aG, J⟩; exact ⟨t, by simp [aG], J⟩
      ·rintro b J ⟨t, aG, ht⟩
       have : t ≠ gF v := fun e => nN.1 (e ▸ aG)
       exact h.de t (gF v) b this ht J
     ·intro k aO cl ab aj
      cases k with
      | zero =>
        simp at ab aj; subst ab aj
        refine ⟨fP, cr, ?_, aC, rt⟩
        rw [← aC]; exact ag.length _ _ _ fQ
      | succ k => exact fG k aO cl (by simpa using ab) (by simpa using aj)
theorem xR (aJ : C.cP) {f : FuncId} {fn : Func} {c : Code} {fx : List Nat} {as outs : List j} {r : j} (bb : C.P.funcs[f]? = some fn) (J : fn.body = some c)
  (hH : (fn.name == "runtime.NumGoroutine") = false) (aL : as.length ≤ fn.ntmps)
  {w : World} {F X : Nat → Prop} {S : Nat → Nat → Prop} {vs : List Value} (aI : vs.length = as.length) (aB : aZ w F X F S (dw as) (ew vs) w)
  (tY : ∀ a, Rel w F X ⟨fn.ntmps, fx⟩ (ew vs) (dw as) a w → (∀ t, a.tmps.getD t undef = ew vs t) → c.wp C.P (nM w F X ⟨fn.ntmps, fx⟩ (ew vs) (fun e s => (e = .normal ∨ e = .ret) ∧ dA (Ends C fx fn.results.toList r outs) s)) a w) :
  jA C.P f vs.toArray w fun v an => ∃ aT az, aZ w F X aT az (dw (r :: outs)) (ew (v :: vs)) an := by
 have hX : (vs.toArray ++ Array.replicate (fn.ntmps - vs.toArray.size) undef).size = fn.ntmps := by simp; omega
 have cC : (fun t => (vs.toArray ++ Array.replicate (fn.ntmps - vs.toArray.size) undef).getD t undef) = ew vs := by
  funext t
  simp only [ew, Array.getD_eq_getD_getElem?, List.getD_eq_getElem?_getD]
  by_cases aG : t < vs.length
  ·rw [Array.getElem?_append_left (by simpa using aG)]; simp
  ·rw [Array.getElem?_append_right (by simpa using aG)]
   rw [List.getElem?_eq_none (by omega)]
   simp only [Array.getElem?_replicate]
   split <;> rfl
 have kQ : Rel w F X ⟨fn.ntmps, fx⟩ (ew vs) (dw as) { tmps := vs.toArray ++ Array.replicate (fn.ntmps - vs.toArray.size) undef, defers := [] } w :=
  ⟨rfl, hX, fun i _ => congrFun cC i, F, S, by rw [cC]; exact aB⟩
 have tZ : fn.name ≠ "runtime.NumGoroutine" := by simpa using hH
 refine .inl ⟨by simp [callFunc, bb, tZ, J], calls_of_wp bb J (wp_mono (tY _ kQ (congrFun cC)) ?_)⟩
 rintro e bK an ⟨ah, ⟨he, DE⟩, DF⟩
 obtain ⟨ah, ⟨ds, fz, xS, nN, o9⟩, ab, cB, ey, aT, az, cD⟩ := DF.dA DE
 obtain ⟨xs, eP, ee, gh, fG⟩ := DD aJ cD _ ds fz nN
 have DG : (results fn bK.tmps) = (do let vs ← fn.results.mapM (pZ bK.tmps); pure (if h : vs.size = 1 then vs[0] else .tuple vs)) := by
  unfold results
  congr 1
 have mc : (results fn bK.tmps).run C.P an = .ok (if h : xs.toArray.size = 1 then xs.toArray[0] else .tuple xs.toArray) an := by
  rw [DG, Array.mapM_eq_mapM_toList]
  simp [eP]
 have mE : (r.tree = true ∧ cp r (if h : xs.toArray.size = 1 then xs.toArray[0] else .tuple xs.toArray) ∧
   ag an aT r (bj (if h : xs.toArray.size = 1 then xs.toArray[0] else .tuple xs.toArray)) (fun b => ∃ t ∈ fn.results.toList.map gF, az t b)) := by
  by_cases U : ∃ d, ds = [d]
  ·obtain ⟨d, rfl⟩ := U
   obtain ⟨x, rfl⟩ : ∃ x, xs = [x] := by
    cases xs with
    | nil => simp at ee
    | cons x xs => cases xs with
      | nil => exact ⟨x, rfl⟩
      | cons y bF => simp at ee
   obtain ⟨ba, bg, cy, b2, cM⟩ := fG 0 d x rfl rfl
   have DH : d = r := xS.symm
   subst DH
   simp only [List.flatMap_cons, List.flatMap_nil, List.append_nil] at gh
   rw [aD] at gh
   obtain ⟨br, bC, a_, ca, aC, aF, a6, bQ, bT, bc⟩ := gh
   rw [aD] at a6; subst a6
   simp only [List.append_nil] at aC; subst aC
   have aj : (if h : ([x] : List Value).toArray.size = 1 then ([x] : List Value).toArray[0] else .tuple ([x] : List Value).toArray) = x := by simp
   rw [aj, b2]
   exact ⟨cM, ba, ag.mono (fun _ h => h) _ _ _ _ bQ aF⟩
  ·have DI : r = .tuple ds := by
    rw [xS]
    cases ds with
    | nil => rfl
    | cons d ds => cases ds with
      | nil => exact (U ⟨d, rfl⟩).elim
      | cons e ds => rfl
   have aj : (if h : xs.toArray.size = 1 then xs.toArray[0] else Value.tuple xs.toArray) = .tuple xs.toArray := by
    rw [dif_neg]
    intro cB
    have : ds.length = 1 := by rw [← ee]; simpa using cB
    obtain ⟨d, ab⟩ := List.length_eq_one_iff.1 this
    exact U ⟨d, ab⟩
   rw [aj, DI]
   refine ⟨rfl, ⟨xs.toArray, rfl, by simpa using ee, fun k d x ab aj => ?_⟩, ?_⟩
   ·obtain ⟨ba, bg, cy, b2, _⟩ := fG k d x ab (by simpa using aj)
    exact ⟨(xQ bg ba).2, bg, cy⟩
   ·rw [ag]
    simpa [bj] using gh
 have post : ∀ (v : Value), (r.tree = true ∧ cp r v ∧ ag an aT r (bj v) (fun b => ∃ t ∈ fn.results.toList.map gF, az t b)) → ∃ nF a_, aZ w F X nF a_ (dw (r :: outs)) (ew (v :: vs)) an := by
  rintro v ⟨v1, v2, v3⟩
  have t_ : ∀ i, (outs.getD i .hole).dQ = true → outs.getD i .hole = ah i ∧ i ∈ fx ∧ i ∉ fn.results.toList.map gF := by
   intro i ax
   cases bo : outs[i]? with
   | none => simp [List.getD, bo, j.dQ] at ax
   | some o =>
     have e : outs.getD i .hole = o := by simp [List.getD, bo]
     rw [e] at ax ⊢
     rcases o9 i o bo with h | h
     ·subst h; simp [j.dQ] at ax
     ·exact ⟨h.1, h.2.2⟩
  refine ⟨aT, fun t b => match t with | 0 => ∃ t ∈ fn.results.toList.map gF, az t b | i + 1 => (outs.getD i .hole).dQ = true ∧ az i b, cD.ei, cD.eD, cD.c6, ?_, ?_, ?_, ?_, ?_, cD.old, cD.size, cD.os, cD.tape, cD.output⟩
  ·intro t b J
   cases t with
   | zero => obtain ⟨t, _, J⟩ := J; exact cD.cL t b J
   | succ i => exact cD.cL i b J.2
  ·intro t b J
   cases t with
   | zero => obtain ⟨t, _, J⟩ := J; exact cD.dk t b J
   | succ i => exact cD.dk i b J.2
  ·intro t u b cj J hu
   cases t with
   | zero =>
     obtain ⟨t, aG, J⟩ := J
     cases u with
     | zero => exact cj rfl
     | succ ay =>
       refine cD.de t ay b (fun e => ?_) J hu.2
       subst e; exact (t_ t hu.1).2.2 aG
   | succ i =>
     cases u with
     | zero =>
       obtain ⟨t, aG, hu⟩ := hu
       refine cD.de t i b (fun e => ?_) hu J.2
       subst e; exact (t_ t J.1).2.2 aG
     | succ ay => exact cD.de i ay b (by omega) J.2 hu.2
  ·intro t b J
   cases t with
   | zero => obtain ⟨t, _, J⟩ := J; exact cD.cf t b J
   | succ i => exact cD.cf i b J.2
  ·intro t
   cases t with
   | zero => exact (ar.bt v1).2 ⟨v2, v3⟩
   | succ i =>
     show ar an aT (dw (r :: outs)) (ew (v :: vs)) (outs.getD i .hole) (vs.getD i undef) (fun b => (outs.getD i .hole).dQ = true ∧ az i b)
     cases ax : (outs.getD i .hole).dQ with
     | false =>
       have : outs.getD i .hole = .hole := by
        cases bo : outs[i]? with
        | none => simp [List.getD, bo]
        | some o =>
          have e : outs.getD i .hole = o := by simp [List.getD, bo]
          rw [e] at ax ⊢
          rcases o9 i o bo with h | h
          ·exact h
          ·rw [h.2.1] at ax; cases ax
       rw [this, ar]; trivial
     | true =>
       obtain ⟨ik, jz, rb⟩ := t_ i ax
       have aG := (lv ax).2.1
       have ft := cD.cb i
       rw [← ik] at ft
       obtain ⟨g1, g2⟩ := (ar.bt aG).1 ft
       have aA : bK.tmps.getD i undef = vs.getD i undef := ey i jz
       rw [aA] at g1 g2
       exact (ar.bt aG).2 ⟨g1, ag.mono (fun _ h => h) _ _ _ _ (fun b J => ⟨rfl, J⟩) g2⟩
 rcases he with rfl | rfl
 ·exact ⟨ab, _, mc, _, rfl, post _ mE⟩
 ·exact ⟨ab, _, mc, _, rfl, post _ mE⟩
theorem b3.of_wp (aJ : C.cP) {f : FuncId} {fn : Func} {c : Code} {c2 : ao} {fx : List Nat} {as outs : List j} {r : j} (bb : C.P.funcs[f]? = some fn) (J : fn.body = some c)
  (hH : (fn.name == "runtime.NumGoroutine") = false) (R : cz ⟨fn.ntmps, fx⟩ c = some c2.strip) (aL : as.length ≤ fn.ntmps)
  (h : b9 C c2 (fun e s => (e = .normal ∨ e = .ret) ∧ dA (Ends C fx fn.results.toList r outs) s) (dw as)) (al : c2.plain = true := by kernel_rfl) : b3 C f as r outs :=
 fun w F X S vs aI aB => xR aJ bb J hH aL aI aB fun a kQ _ => Dz aJ c (by rw [ao.xF]; exact R) (ao.xG c2 (ao.Dl c2 al)) (xM c2 h) kQ
end
def num : Nat → List j → List (Nat × j)
 | _, [] => []
 | k, a :: as => (k, a) :: num (k + 1) as
theorem DJ : ∀ (as : List j) (k t : Nat), I (num k as) (k + t) = as.getD t .hole := by
 intro as
 induction as with
 | nil => intro k t; simp [num, I]
 | cons a as ih =>
   intro k t
   cases t with
   | zero => simp [num, I]
   | succ t =>
     have := ih (k + 1) t
     simp only [num, I]
     rw [if_neg (by omega)]
     rw [show k + (t + 1) = k + 1 + t by omega, this]
     simp
theorem xT (as : List j) : dw as = I (num 0 as) := by
 funext t
 have := DJ as 0 t
 rw [Nat.zero_add] at this
 rw [this]; rfl
theorem gG (l : List (Nat × j)) (t : Nat) (d : j) : b4 (I l) t d = I ((t, d) :: l) := by
 funext u; simp only [b4, I]
def i4 (t : Nat) : List (Nat × j) → List (Nat × j)
 | [] => []
 | (u, d) :: l => (u, bz t d) :: i4 t l
def mF (t : Nat) : List (Nat × j) → List (Nat × j)
 | [] => []
 | (u, d) :: l => (u, bd t d) :: mF t l
theorem nO (t : Nat) : ∀ l : List (Nat × j), hb t (I l) = I (i4 t l) := by
 intro l
 funext u
 induction l with
 | nil => rfl
 | cons p l ih =>
   obtain ⟨v, d⟩ := p
   simp only [hb, I, i4] at ih ⊢
   split
   ·rfl
   ·exact ih
theorem DK (t : Nat) : ∀ l : List (Nat × j), fa t (I l) = I (mF t l) := by
 intro l
 funext u
 induction l with
 | nil => rfl
 | cons p l ih =>
   obtain ⟨v, d⟩ := p
   simp only [fa, I, mF] at ih ⊢
   split
   ·rfl
   ·exact ih
def fA (k : List Nat) (s : ae) : List (Nat × j) := k.map fun t => (t, s t)
section
variable {C : bl} {l : List (Nat × j)}
def du.mG : du → Bool
 | .call _ _ => true
 | .cK _ => false
 | .eo _ => false
 | .pick _ _ _ => false
 | .ek _ => false
 | .da _ _ => false
 | .df _ _ => false
 | .cR _ _ _ => false
 | .cH _ _ => false
 | .dC _ _ _ => false
 | .dN _ => false
 | .bW _ _ _ _ => false
 | .un _ _ => false
 | .dg _ _ _ => false
 | .gp _ _ => false
 | .en _ _ _ => false
 | .cU _ _ _ _ => false
 | .dt _ _ _ => false
 | .dm _ _ _ => false
 | .idx _ _ _ => false
 | .ex _ _ => false
 | .hA _ _ _ => false
 | .len _ _ => false
 | .app _ _ _ _ => false
 | .shr _ => true
 | .iS _ _ _ _ => false
 | .cap _ _ => false
 | .j7 _ _ _ => false
 | .bad => false
 | .hV _ _ _ _ => true
 | .hW _ _ _ => true
 | .gQ _ _ => false
 | .lq _ => false
 | .kK _ => false
variable {Q : Exit → ae → Prop}
def j.xU : j → Bool
 | .tuple _ => true
 | _ => false
theorem Ends.one {fx : List Nat} {t : Nat} {r : j} {s : ae} (U : s t = r) (aa : (r.tree && !r.xU) = true) : Ends C fx [.tmp t] r [] s := by
 simp only [Bool.and_eq_true, Bool.not_eq_true'] at aa
 obtain ⟨aa, rr⟩ := aa
 have aw : ∀ vs, r ≠ .tuple vs := fun vs e => by subst e; simp [j.xU] at rr
 refine ⟨[r], ?_, rfl, by simp, fun i o h => by simp at h⟩
 have : kS C s (.tmp t) = some r := by
  simp only [kS, U, aa, if_true]
  try (cases r <;> first | rfl | exact (aw _ rfl).elim)
 simp only [List.map_cons, List.map_nil, this]
end
section
variable {C : bl} {l : List (Nat × j)} {Q : Exit → ae → Prop}
theorem b3.outs {f : FuncId} {as : List j} {r : j} {ik jz : List j} (h : b3 C f as r ik) (he : dw ik = dw jz) : b3 C f as r jz := by
 intro w F X S vs aI aB
 refine jA.mono (h w F X S vs aI aB) ?_
 rintro v an ⟨aT, az, aS⟩
 refine ⟨aT, az, ?_⟩
 have : dw (r :: jz) = dw (r :: ik) := by
  funext t
  cases t with
  | zero => rfl
  | succ t => exact (congrFun he t).symm
 rw [this]; exact aS
def hI : List j → List j → List bw
 | a :: as, d :: ds => ⟨a, false, d, .hole⟩ :: hI as ds
 | _, _ => []
theorem DL {s : ae} : ∀ (as ds : List j), views s as = some ds → (hI as ds).map (·.a) = as ∧ (hI as ds).map (·.d) = ds ∧ (∀ p ∈ hI as ds, p.ok s ∧ p.g = false ∧ p.o = .hole ∧ p.a ∈ as) ∧ fc (hI as ds) = true ∧
  dw ((hI as ds).map (·.o)) = dw [] ∧ (∀ kT, c1 kT (hI as ds) = kT) ∧ (∀ kT, e6 kT (hI as ds) = kT) := by
 intro as
 induction as with
 | nil =>
   intro ds h
   simp only [views, Option.some.injEq] at h; subst h
   exact ⟨rfl, rfl, (fun p al => by cases al), rfl, rfl, fun _ => rfl, fun _ => rfl⟩
 | cons a as ih =>
   intro ds h
   simp only [views] at h
   split at h
   ·rename_i d DM U aa
    simp only [Option.some.injEq] at h; subst h
    obtain ⟨aC, aF, a6, bQ, bT, bc, a8⟩ := ih DM aa
    refine ⟨by simp only [hI, List.map_cons, aC], by simp only [hI, List.map_cons, aF], ?_, ?_, ?_, ?_, ?_⟩
    ·intro p al
     simp only [hI, List.mem_cons] at al
     rcases al with rfl | al
     ·exact ⟨by simp only [bw.ok]; exact U, rfl, rfl, by simp⟩
     ·obtain ⟨g1, g2, g3, g4⟩ := a6 p al
      exact ⟨g1, g2, g3, by simp [g4]⟩
    ·simp only [hI, fc, bQ, Bool.and_true, List.all_eq_true]
     intro p al
     simp [(a6 p al).2.1]
    ·funext t
     cases t with
     | zero => rfl
     | succ t => exact (congrFun bT t).trans (by simp [dw])
    ·intro kT; exact bc kT
    ·intro kT; exact a8 kT
   ·cases h
end
structure c3 where
 aV : List Nat
 H : List Nat
 T : List Nat
 c : Bool
mutual
def j.clean : j → Bool
 | .hole => false
 | .fn _ cap => j.nP cap
 | _ => true
def j.nP : List j → Bool
 | [] => true
 | d :: ds => d.clean && j.nP ds
end
mutual
theorem xV {x : Nat} : ∀ a : j, (bd x a).clean = true → bd x a = a
 | .h y q, h => by
   simp only [bd] at h ⊢
   split
   ·rename_i e; rw [if_pos e] at h
    split
    ·rfl
    ·rename_i eh; rw [if_neg eh] at h; simp [j.clean] at h
   ·rfl
 | .al y q, h => by
   simp only [bd] at h ⊢
   split
   ·rename_i e; rw [if_pos e] at h; simp [j.clean] at h
   ·rfl
 | .J y q, h => rfl
 | .fn f cap, h => by simp only [bd, j.clean] at h ⊢; rw [xW cap h]
 | .hole, _ => rfl
 | .bool _, _ => rfl
 | .cO, _ => rfl
 | .int _ _, _ => rfl
 | .str _, _ => rfl
 | .b7, _ => rfl
 | .bB, _ => rfl
 | .slice _, _ => rfl
 | .aP _ _, _ => rfl
 | .ref _, _ => rfl
 | .bn _, _ => rfl
 | .agg _, _ => rfl
 | .tuple _, _ => rfl
 | .b_ _, _ => rfl
theorem xW {x : Nat} : ∀ ds : List j, j.nP (eZ x ds) = true → eZ x ds = ds
 | [], _ => rfl
 | d :: ds, h => by
   simp only [eZ, j.nP, Bool.and_eq_true] at h ⊢
   rw [xV d h.1, xW ds h.2]
end
mutual
theorem xX {x : Nat} : ∀ a : j, (bz x a).clean = true → bz x a = a
 | .h y q, h => by
   simp only [bz] at h ⊢
   split
   ·rename_i e; rw [if_pos e] at h; simp [j.clean] at h
   ·rfl
 | .al y q, h => by
   simp only [bz] at h ⊢
   split
   ·rename_i e; rw [if_pos e] at h; simp [j.clean] at h
   ·rfl
 | .J y q, h => by
   simp only [bz] at h ⊢
   split
   ·rename_i e; rw [if_pos e] at h; simp [j.clean] at h
   ·rfl
 | .fn f cap, h => by simp only [bz, j.clean] at h ⊢; rw [xY cap h]
 | .hole, _ => rfl
 | .bool _, _ => rfl
 | .cO, _ => rfl
 | .int _ _, _ => rfl
 | .str _, _ => rfl
 | .b7, _ => rfl
 | .bB, _ => rfl
 | .slice _, _ => rfl
 | .aP _ _, _ => rfl
 | .ref _, _ => rfl
 | .bn _, _ => rfl
 | .agg _, _ => rfl
 | .tuple _, _ => rfl
 | .b_ _, _ => rfl
theorem xY {x : Nat} : ∀ ds : List j, j.nP (fl x ds) = true → fl x ds = ds
 | [], _ => rfl
 | d :: ds, h => by
   simp only [fl, j.nP, Bool.and_eq_true] at h ⊢
   rw [xX d h.1, xY ds h.2]
end
theorem DN {k : j_} {x : Nat} {a : j} (h : (k.app x a).clean = true) : k.app x a = a := by
 cases k with
 | no => rfl
 | bd => exact xV a h
 | bz => exact xX a h
theorem DO : ∀ (ms : List dI) (u : Nat) (a : j), (∀ m ∈ ms, m.x ≠ u) → (fT ms u a).clean = true → fT ms u a = a := by
 intro ms
 induction ms with
 | nil => intros; rfl
 | cons m ms ih =>
   intro u a aj af
   simp only [fT] at af ⊢
   have e := ih u _ (fun fR mH => aj fR (by simp [mH])) af
   have hm : m.at u a = m.k.app m.x a := by
    simp only [dI.at]; rw [if_neg (fun e => aj m (by simp) e.symm)]
   rw [e, hm]
   rw [e, hm] at af
   exact DN af
theorem DP : ∀ (ms : List dI) (u : Nat) (a : j), (∀ m ∈ ms, m.x ≠ u ∧ m.x ∉ a.R) → fT ms u a = a := by
 intro ms
 induction ms with
 | nil => intros; rfl
 | cons m ms ih =>
   intro u a aj
   simp only [fT]
   have hm : m.at u a = a := by
    simp only [dI.at]; rw [if_neg (fun e => (aj m (by simp)).1 e.symm)]
    exact pJ (.inr (aj m (by simp)).2)
   rw [hm]
   exact ih u a fun fR mH => aj fR (by simp [mH])
theorem DQ (m : dI) : ∀ (ms : List dI) (u : Nat) (a : j), (∀ fR ∈ ms, fR.x ≠ m.x ∧ fR.x ∉ m.d.R ∧ m.x ∉ fR.d.R) → fT ms u (m.at u a) = m.at u (fT ms u a) := by
 intro ms
 induction ms with
 | nil => intros; rfl
 | cons n ms ih =>
   intro u a aj
   simp only [fT]
   have aL := aj n (by simp)
   have af : n.at u (m.at u a) = m.at u (n.at u a) := by
    simp only [dI.at]
    by_cases aC : u = n.x
    ·subst aC
     rw [if_pos rfl, if_neg aL.1, if_pos rfl]
     exact (pJ (.inr aL.2.2)).symm
    ·rw [if_neg aC]
     by_cases aF : u = m.x
     ·subst aF
      rw [if_pos rfl, if_pos rfl]
      exact pJ (.inr aL.2.1)
     ·rw [if_neg aF, if_neg aC, if_neg aF]
      exact B_ _ _ _ _ _
   rw [af]
   exact ih u _ fun fR mH => aj fR (by simp [mH])
theorem DR : ∀ (ms gC : List dI) (s : ae), (∀ m ∈ ms, ∀ n ∈ gC, n.x ≠ m.x ∧ n.x ∉ m.d.R ∧ m.x ∉ n.d.R) → b0 gC (b0 ms s) = b0 ms (b0 gC s) := by
 intro ms
 induction ms with
 | nil => intros; rfl
 | cons m ms ih =>
   intro gC s h
   have e : ∀ s, b0 (m :: ms) s = b0 ms (b0 [m] s) := fun s => hh [m] ms s
   rw [e, e, ih gC _ (fun fR mH => h fR (by simp [mH]))]
   congr 1
   funext u
   simp only [b0, fT]
   exact DQ m gC u _ (h m (by simp))
def ua (C : bl) (s : ae) (f : aq) (args : List aq) (K : List Nat → j → ae → Prop) : Prop :=
 ∃ (g : FuncId) (caps : List j) (ps : List bw) (r : j), au s f = .fn g caps ∧ j.dd caps = true ∧ ps.map (·.a) = args.map (au s) ++ caps ∧ (∀ p ∈ ps, p.ok s) ∧ fc ps = true ∧
   b3 C g (ps.map (·.d)) r (ps.map (·.o)) ∧ r.res = true ∧ (gD ps = true → r.cN = true ∧ ∀ p ∈ ps, p.o.cN = true) ∧ K (j.cE ((ps.filter (·.g)).map (·.a))) r (e6 (c1 s ps) ps)
def jG (C : bl) (s : ae) (aQ : du) (K : List Nat → j → ae → Prop) : Prop :=
 match aQ with
 | .call f args => ∃ (g : FuncId) (caps : List j) (ps : List bw) (r : j), au s f = .fn g caps ∧ j.dd caps = true ∧ ps.map (·.a) = args.map (au s) ++ caps ∧ (∀ p ∈ ps, p.ok s) ∧ fc ps = true ∧
   b3 C g (ps.map (·.d)) r (ps.map (·.o)) ∧ r.res = true ∧ (gD ps = true → r.cN = true ∧ ∀ p ∈ ps, p.o.cN = true) ∧ K (j.cE ((ps.filter (·.g)).map (·.a))) r (e6 (c1 s ps) ps)
 | .shr aQ => ∃ av s1, aR C s aQ = some (av, s1) ∧ av.tree = true ∧ (∀ vs, av ≠ .tuple vs) ∧ K (bX s aQ) av.share s1
 | .hV f args u x => s u = .h x [] ∧ (s x).own = true ∧ ua C s f args fun bE av s1 => s1 u = .hole ∧ (s1 x).own = true ∧ K (u :: bE) av (b4 s1 u (.h x []))
 | .hW f args us => kc s (hG s us) = true ∧ ua C s f args fun bE av s1 => kc s1 (hG s us) = true ∧ K (us ++ bE) av (kP s1 (hG s us))
 | aQ => ∃ av s1, aR C s aQ = some (av, s1) ∧ K (bX s aQ) av s1
def ff (s : ae) (aV : List Nat) (dst : Option Nat) (bE : List Nat) (av : j) : c3 :=
 ⟨aV, aV.flatMap (fun u => (s u).R) ++ av.R, dst.toList ++ bE, aV.all fun u => (s u).clean⟩
def i5 (C : bl) (s : ae) (o : bf) (K : c3 → ae → Prop) : Prop :=
 match o.guard with
 | none => jG C s o.aQ fun bE av s1 => K (ff s (use s o.aQ) o.dst bE av) (fin s1 o.dst av)
 | some (t, b) => match s t with
   | .bool c9 => if c9 = b then jG C s o.aQ (fun bE av s1 => K (ff s (t :: use s o.aQ) o.dst bE av) (fin s1 o.dst av)) else K (ff s [t] o.dst [] (.tuple [])) (fin s o.dst (.tuple []))
   | .tuple [] => K (ff s [t] o.dst [] (.tuple [])) (fin s o.dst (.tuple []))
   | _ => False
def kU : Option (List c3) → c3 → Option (List c3)
 | none, _ => none
 | some l, f => some (f :: l)
def bu (C : bl) (s : ae) : List bf → Option (List c3) → (Option (List c3) → ae → Prop) → Prop
 | [], acc, K => K acc s
 | o :: os, acc, K => i5 C s o fun f s1 => bu C s1 os (kU acc f) K
section
variable {C : bl}
theorem xZ {s : ae} {aQ : du} {K : List Nat → j → ae → Prop} {bY : j → ae → Prop} (ai : ∀ bE av s, K bE av s → bY av s) (h : jG C s aQ K) : i1 C s aQ bY := by
 cases aQ with
 | call f args =>
   obtain ⟨g, caps, ps, r, U, dE, aa, aw, aH, aX, bD, bI, c4⟩ := h
   exact ⟨g, caps, ps, r, U, dE, aa, aw, aH, aX, bD, bI, ai _ _ _ c4⟩
 | hV f args u x =>
   obtain ⟨ba, bg, g, caps, ps, r, U, dE, aa, aw, aH, aX, bD, bI, c4, eG, eB⟩ := h
   exact ⟨ba, bg, g, caps, ps, r, U, dE, aa, aw, aH, aX, bD, bI, c4, eG, ai _ _ _ eB⟩
 | hW f args us =>
   obtain ⟨bg, g, caps, ps, r, U, dE, aa, aw, aH, aX, bD, bI, c4, eG⟩ := h
   exact ⟨bg, g, caps, ps, r, U, dE, aa, aw, aH, aX, bD, bI, c4, ai _ _ _ eG⟩
 | shr aQ =>
   obtain ⟨av, s1, U, aa, aw, aH⟩ := h
   exact ⟨av, s1, U, aa, aw, ai _ _ _ aH⟩
 | _ =>
   obtain ⟨av, s1, U, aa⟩ := h
   exact ⟨av, s1, U, ai _ _ _ aa⟩
theorem DS {s : ae} {o : bf} {K : c3 → ae → Prop} {bY : ae → Prop} (ai : ∀ f s, K f s → bY s) (h : i5 C s o K) : hi C s o bY := by
 unfold i5 at h
 unfold hi
 split
 ·rename_i aN; rw [aN] at h; exact xZ (fun _ _ _ => ai _ _) h
 ·rename_i t b aN
  rw [aN] at h
  simp only at h
  split
  ·rename_i c9 R
   rw [R] at h
   simp only at h
   split
   ·rename_i J; rw [if_pos J] at h; exact xZ (fun _ _ _ => ai _ _) h
   ·rename_i J; rw [if_neg J] at h; exact ai _ _ h
  ·rename_i R; rw [R] at h; exact ai _ _ h
  ·rename_i U aa
   split at h
   ·exact U _ (by assumption)
   ·exact aa (by assumption)
   ·exact h
theorem ru {K : ae → Prop} : ∀ {ros : List bf} {s : ae} {acc : Option (List c3)} {bY : Option (List c3) → ae → Prop}, (∀ a s, bY a s → K s) → bu C s ros acc bY → gU C s ros K := by
 intro ros
 induction ros with
 | nil => intro s acc bY ai h; exact ai _ _ h
 | cons o ros ih => intro s acc bY ai h; exact DS (fun f s h => ih ai h) h
theorem x0 {q : List Nat} {a d : j} (h : j.sub q a = some d) (bR : q ≠ [] ∨ d.R = []) : a.R = [] := by
 cases q with
 | nil =>
   simp only [j.sub, Option.some.injEq] at h; subst h
   exact bR.resolve_left (fun e => e rfl)
 | cons k q => cases a <;> first | rfl | (simp [j.sub] at h)
def rv (s : ae) (p : bw) (e : j → Prop) : Prop := p.g = true → ∃ x q d, p.a = .h x q ∧ j.sub q (s x) = some d ∧ e d ∧ (p.o = .hole ∨ p.o.dQ = true)
theorem x1 {d : j} (h : d.dQ = true) : d.R = [] := xk (lv h).2.1
theorem x2 {d : j} (h : d.dQ = true) : d.bO.R = [] := by cases d <;> first | rfl | (simp [j.dQ] at h)
theorem x3 {p : bw} {ps : List bw} (h : fc (p :: ps) = true) : fc ps = true ∧ ∀ bA ∈ ps, (p.g = true ∨ bA.g = true) → ∀ u ∈ p.a.R, u ∉ bA.a.R := by
 simp only [fc, Bool.and_eq_true, List.all_eq_true, Bool.or_eq_true, Bool.not_eq_true'] at h
 refine ⟨h.2, fun bA cI aN u hu => ?_⟩
 rcases h.1 bA cI with e | e
 ·rcases aN with aN | aN <;> simp [aN] at e
 ·simpa using e u hu
def lE (ps : List bw) : List Nat := j.cE ((ps.filter (·.g)).map (·.a))
theorem nQ (p : bw) (ps : List bw) : (∀ u ∈ lE ps, u ∈ lE (p :: ps)) ∧ (p.g = true → ∀ u ∈ p.a.R, u ∈ lE (p :: ps)) := by
 unfold lE
 by_cases aN : p.g = true
 ·simp only [List.filter_cons, aN, if_true, List.map_cons, j.cE, List.mem_append]
  exact ⟨fun u h => .inr h, fun _ u h => .inl h⟩
 ·simp only [List.filter_cons, aN]
  exact ⟨fun u h => h, fun h => by simp at h⟩
theorem DT {p : bw} {ps : List bw} (h : p ∈ ps) : ∀ u ∈ p.a.R, u ∈ j.cE (ps.map (·.a)) := by
 induction ps with
 | nil => cases h
 | cons bA ps ih =>
   intro u hu
   simp only [List.map_cons, j.cE, List.mem_append]
   rcases List.mem_cons.1 h with rfl | h
   ·exact .inl hu
   ·exact .inr (ih h u hu)
theorem DU : ∀ (ps : List bw) (s : ae), (∀ p ∈ ps, rv s p (fun d => d = p.d ∧ p.d.dQ = true)) → fc ps = true →
  (∃ ms : List dI, (∀ m ∈ ms, m.x ∈ lE ps ∧ m.d.R = []) ∧ ∀ ah, b8 (j.cE (ps.map (·.a))) ah s → c1 ah ps = b0 ms ah) ∧ ∀ p ∈ ps, rv (c1 s ps) p (fun d => d = p.d.bO ∧ p.d.dQ = true) := by
 intro ps
 induction ps with
 | nil => intro s _ _; exact ⟨⟨[], by simp, fun ah _ => rfl⟩, fun p al => by cases al⟩
 | cons p ps ih =>
   intro s aN gB
   obtain ⟨jy, iY⟩ := x3 gB
   by_cases hJ : p.g = true
   ·obtain ⟨x, q, d, bs, R, ⟨rfl, ab⟩, bo⟩ := aN p (by simp) hJ
    have gx : (j.put q p.d.bO (s x)).R = [] := pK q _ _ _ R (.inl (lv ab).1) fun _ => x2 ab
    have p0 : ∀ ah : ae, ah x = s x → p.take ah = b0 [⟨.bd, x, j.put q p.d.bO (s x)⟩] ah := by
     intro ah e
     simp only [bw.take, hJ, if_true, bs, e, pH]
    have cj : ∀ bA ∈ ps, ∀ cl fv, bA.a = .h cl fv → cl ≠ x := by
     intro bA cI cl fv e eh
     have := iY bA cI (.inl hJ) x (by simp [bs, j.R])
     rw [e, eh] at this; simp [j.R] at this
    have lx : ∀ cl, cl ≠ x → (s cl).R = [] → b0 [⟨.bd, x, j.put q p.d.bO (s x)⟩] s cl = s cl := by
     intro cl np bk
     simp only [b0, fT, dI.at]
     rw [if_neg np]
     exact pJ (.inr (by rw [bk]; simp))
    obtain ⟨⟨ms, dH, eI⟩, fw⟩ := ih (b0 [⟨.bd, x, j.put q p.d.bO (s x)⟩] s) (fun bA cI ub => by
     obtain ⟨cl, fv, aO, mz, dY, ea, p1⟩ := aN bA (by simp [cI]) ub
     refine ⟨cl, fv, aO, mz, ?_, ea, p1⟩
     rw [lx cl (cj bA cI cl fv mz) (x0 dY (.inr (by rw [ea.1]; exact x1 ea.2)))]; exact dY) jy
    refine ⟨⟨[⟨.bd, x, j.put q p.d.bO (s x)⟩] ++ ms, ?_, ?_⟩, ?_⟩
    ·intro m hm
     rcases List.mem_append.1 hm with hm | hm
     ·simp only [List.mem_singleton] at hm; subst hm
      exact ⟨(nQ p ps).2 hJ x (by simp [bs, j.R]), gx⟩
     ·exact ⟨(nQ p ps).1 _ (dH m hm).1, (dH m hm).2⟩
    ·intro ah dY
     simp only [List.map_cons, j.cE] at dY
     have e : ah x = s x := dY x (by simp [bs, j.R])
     rw [hh]
     show c1 (p.take ah) ps = _
     rw [p0 ah e]
     exact eI _ (b8.b0 dY.right _)
    ·have aC : c1 s (p :: ps) = c1 (b0 [⟨.bd, x, j.put q p.d.bO (s x)⟩] s) ps := by
      show c1 (p.take s) ps = _
      rw [p0 s rfl]
     rw [aC]
     intro bA cI
     rcases List.mem_cons.1 cI with rfl | cI
     ·intro _
      refine ⟨x, q, bA.d.bO, bs, ?_, ⟨rfl, ab⟩, bo⟩
      have aA : b0 [⟨.bd, x, j.put q bA.d.bO (s x)⟩] s x = j.put q bA.d.bO (s x) := by
       simp only [b0, fT, dI.at, if_true]
      rw [tA (by rw [aA]; exact gx) (fun DV DW LO => ?_), aA]
      ·exact xh q _ _ _ R
      ·exact iY DV DW (.inl hJ) x (by simp [bs, j.R])
     ·exact fw bA cI
   ·have p0 : ∀ ah : ae, p.take ah = ah := by intro ah; simp only [bw.take, hJ]; rfl
    obtain ⟨⟨ms, dH, eI⟩, fw⟩ := ih s (fun bA cI => aN bA (by simp [cI])) jy
    refine ⟨⟨ms, fun m hm => ⟨(nQ p ps).1 _ (dH m hm).1, (dH m hm).2⟩, ?_⟩, ?_⟩
    ·intro ah dY
     simp only [List.map_cons, j.cE] at dY
     show c1 (p.take ah) ps = _
     rw [p0]; exact eI ah dY.right
    ·intro bA cI
     have aC : c1 s (p :: ps) = c1 s ps := by show c1 (p.take s) ps = _; rw [p0]
     rw [aC]
     rcases List.mem_cons.1 cI with rfl | cI
     ·intro h; exact (hJ h).elim
     ·exact fw bA cI
theorem DX : ∀ (ps : List bw) (s : ae), (∀ p ∈ ps, rv s p (fun d => d = p.d.bO ∧ p.d.dQ = true)) → fc ps = true →
  (∃ ms : List dI, (∀ m ∈ ms, m.x ∈ lE ps ∧ m.d.R = []) ∧ ∀ ah, b8 (j.cE (ps.map (·.a))) ah s → e6 ah ps = b0 ms ah) := by
 intro ps
 induction ps with
 | nil => intro s _ _; exact ⟨[], by simp, fun ah _ => rfl⟩
 | cons p ps ih =>
   intro s aN gB
   obtain ⟨jy, iY⟩ := x3 gB
   by_cases hJ : p.g = true ∧ p.o ≠ .hole
   ·obtain ⟨hJ, DY⟩ := hJ
    obtain ⟨x, q, d, bs, R, ⟨rfl, ab⟩, bo⟩ := aN p (by simp) hJ
    have bo : p.o.dQ = true := bo.resolve_left DY
    have gx : (j.put q p.o (s x)).R = [] := by
     cases q with
     | nil => simp only [j.put]; exact x1 bo
     | cons k q => exact pK _ _ _ _ R (.inr (by simp)) (by simp)
    have uc : ∀ ah : ae, ah x = s x → p.e5 ah = b0 [⟨.bz, x, j.put q p.o (s x)⟩] ah := by
     intro ah e
     simp only [bw.e5, hJ, if_true, bs]
     rw [e, wZ]
    have cj : ∀ bA ∈ ps, ∀ cl fv, bA.a = .h cl fv → cl ≠ x := by
     intro bA cI cl fv e eh
     have := iY bA cI (.inl hJ) x (by simp [bs, j.R])
     rw [e, eh] at this; simp [j.R] at this
    obtain ⟨ms, dH, eI⟩ := ih (b0 [⟨.bz, x, j.put q p.o (s x)⟩] s) (fun bA cI ub => by
     obtain ⟨cl, fv, aO, mz, dY, ea, p1⟩ := aN bA (by simp [cI]) ub
     refine ⟨cl, fv, aO, mz, ?_, ea, p1⟩
     have bk := x0 dY (.inr (by rw [ea.1]; exact x2 ea.2))
     have lx : b0 [⟨.bz, x, j.put q p.o (s x)⟩] s cl = s cl := by
      simp only [b0, fT, dI.at]
      rw [if_neg (cj bA cI cl fv mz)]
      exact pJ (.inr (by rw [bk]; simp))
     rw [lx]; exact dY) jy
    refine ⟨[⟨.bz, x, j.put q p.o (s x)⟩] ++ ms, ?_, ?_⟩
    ·intro m hm
     rcases List.mem_append.1 hm with hm | hm
     ·simp only [List.mem_singleton] at hm; subst hm
      exact ⟨(nQ p ps).2 hJ x (by simp [bs, j.R]), gx⟩
     ·exact ⟨(nQ p ps).1 _ (dH m hm).1, (dH m hm).2⟩
    ·intro ah dY
     simp only [List.map_cons, j.cE] at dY
     have e : ah x = s x := dY x (by simp [bs, j.R])
     rw [hh]
     show e6 (p.e5 ah) ps = _
     rw [uc ah e]
     exact eI _ (b8.b0 dY.right _)
   ·have uc : ∀ ah : ae, p.e5 ah = ah := by
     intro ah
     unfold bw.e5
     split
     ·rename_i dP
      have : p.o = .hole := by
       by_cases h : p.o = .hole
       ·exact h
       ·exact (hJ ⟨dP, h⟩).elim
      rw [this]
     ·rfl
    obtain ⟨ms, dH, eI⟩ := ih s (fun bA cI => aN bA (by simp [cI])) jy
    refine ⟨ms, fun m hm => ⟨(nQ p ps).1 _ (dH m hm).1, (dH m hm).2⟩, ?_⟩
    intro ah dY
    simp only [List.map_cons, j.cE] at dY
    show e6 (p.e5 ah) ps = _
    rw [uc]; exact eI ah dY.right
theorem DZ {s ah : ae} : ∀ (a : j) (d : j), b8 a.R ah s → view s a = some d → view ah a = some d := by
 intro a d h
 have := tE (s := s) (ah := ah) a d
 intro aA
 cases a with
 | h x q => simp only [view] at aA ⊢; rw [h x (by simp [j.R])]; exact aA
 | al x q => simp only [view] at aA ⊢; rw [h x (by simp [j.R])]; exact aA
 | fn f cap =>
   refine this (fun u hu _ => h u hu) aA
 | _ => exact aA
theorem D0 {p : bw} {s ah : ae} (h : b8 p.a.R ah s) (eF : p.ok s) : p.ok ah := by
 unfold bw.ok at eF ⊢
 split
 ·rename_i aN
  rw [if_pos aN] at eF
  cases bs : p.a with
  | h x q =>
    rw [bs] at eF
    simp only at eF ⊢
    rw [h x (by simp [bs, j.R])]; exact eF
  | _ => rw [bs] at eF; exact eF.elim
 ·rename_i aN
  rw [if_neg aN] at eF
  exact DZ _ _ h eF
def ry (C : bl) (o : bf) (s : ae) (gu : c3) (ms : List dI) : Prop :=
 (∀ ah, b8 gu.aV ah s → ∀ K : ae → Prop, K (b0 ms ah) → hi C ah o K) ∧ (∀ m ∈ ms, m.x ∈ gu.T ∧ ∀ u ∈ m.d.R, u ∈ gu.H) ∧ (∀ u ∈ gu.aV, ∀ x ∈ (s u).R, x ∈ gu.H) ∧ (gu.c = true → ∀ u ∈ gu.aV, (s u).clean = true)
theorem x4 (dst : Option Nat) (av : j) : ∃ ms : List dI, (∀ m ∈ ms, m.x ∈ dst.toList ∧ m.d = av) ∧ ∀ s1 : ae, fin s1 dst av = b0 ms s1 := by
 cases dst with
 | none => exact ⟨[], by simp, fun s => rfl⟩
 | some t =>
   simp only [fin]
   by_cases h : av.plain = true
   ·exact ⟨[⟨.no, t, av⟩], by simp, fun s => by rw [if_pos h, tm]⟩
   ·exact ⟨[⟨.bz, t, av⟩], by simp, fun s => by rw [if_neg h, wZ]⟩
theorem rz {s : ae} {aV : List Nat} {dst : Option Nat} {bE : List Nat} {av : j} : (∀ u ∈ (ff s aV dst bE av).aV, ∀ x ∈ (s u).R, x ∈ (ff s aV dst bE av).H) ∧ ((ff s aV dst bE av).c = true → ∀ u ∈ (ff s aV dst bE av).aV, (s u).clean = true) := by
 refine ⟨fun u hu x aj => ?_, fun af => ?_⟩
 ·simp only [ff, List.mem_append, List.mem_flatMap]; exact .inl ⟨u, hu, aj⟩
 ·simp only [ff, List.all_eq_true] at af; exact af
theorem ud {s : ae} {f : aq} {args : List aq} {K : List Nat → j → ae → Prop} (h : ua C s f args K) :
  ∃ bE av ms, K bE av (b0 ms s) ∧ (∀ m ∈ ms, m.x ∈ bE ∧ m.d.R = []) ∧ ∀ ah, b8 (use s (.call f args)) ah s → ∀ bY : j → ae → Prop, bY av (b0 ms ah) → ri C ah f args bY := by
 obtain ⟨g, caps, ps, r, U, dE, aa, aw, aH, aX, bD, bI, c4⟩ := h
 have D1 : ∀ p ∈ ps, rv s p (fun d => d = p.d ∧ p.d.dQ = true) := by
  intro p al aN
  have := aw p al
  simp only [bw.ok, aN, if_true] at this
  cases bs : p.a with
  | h x q => rw [bs] at this; exact ⟨x, q, p.d, rfl, this.1, ⟨rfl, this.2.1⟩, this.2.2.imp id fun h => h.1⟩
  | _ => rw [bs] at this; exact this.elim
 obtain ⟨⟨jw, bh, a2⟩, a3⟩ := DU ps s D1 aH
 obtain ⟨my, hz, fs⟩ := DX ps (c1 s ps) a3 aH
 have j4 : ∀ u ∈ j.cE (ps.map (·.a)), u ∈ use s (.call f args) := by
  rw [aa]
  intro u hu
  simp only [use, List.mem_append]
  have key : ∀ (fy l2 : List j), u ∈ j.cE (fy ++ l2) → u ∈ j.cE fy ∨ u ∈ j.cE l2 := by
   intro fy
   induction fy with
   | nil => intro l2 h; exact .inr h
   | cons a fy ih =>
     intro l2 h
     simp only [List.cons_append, j.cE, List.mem_append] at h ⊢
     rcases h with h | h
     ·exact .inl (.inl h)
     ·exact (ih l2 h).imp .inr id
  rcases key _ _ hu with hu | hu
  ·exact .inr (aq.q_ u hu)
  ·refine .inl (aq.mx u ?_)
   rw [U]; exact hu
 have ev : e6 (c1 s ps) ps = b0 (jw ++ my) s := by
  rw [hh, ← a2 s (fun _ _ => rfl), fs _ (fun _ _ => rfl)]
 refine ⟨lE ps, r, jw ++ my, by rw [← ev]; exact c4, ?_, ?_⟩
 ·intro m hm
  rcases List.mem_append.1 hm with hm | hm
  ·exact bh m hm
  ·exact hz m hm
 ·intro ah R bY ai
  have jx : b8 (j.cE (ps.map (·.a))) ah s := R.sub j4
  have bb : b8 (f.use s) ah s := by simp only [use] at R; exact R.left
  have aj : b8 (aq.iX s args) ah s := by simp only [use] at R; exact R.right
  have aC : e6 (c1 ah ps) ps = b0 (jw ++ my) ah := by
   rw [hh, ← a2 ah jx, fs]
   rw [a2 ah jx, a2 s (fun _ _ => rfl)]
   exact b8.b0 jx _
  exact ⟨g, caps, ps, r, by rw [aq.dh bb]; exact U, dE, by rw [aq.tr aj]; exact aa, fun p al => D0 (jx.sub (DT al)) (aw p al), aH, aX, bD, bI, by rw [aC]; exact ai⟩
mutual
theorem x5 {s ah : ae} : ∀ (d : j), b8 d.R ah s → d.ep ah = d.ep s
 | .h x q, h => by simp only [j.ep]; rw [h x (by simp [j.R])]
 | .J x q, h => by simp only [j.ep]; rw [h x (by simp [j.R])]
 | .fn f cap, h => by simp only [j.ep]; exact x6 cap (by simpa only [j.R] using h)
 | .al _ _, _ => by simp only [j.ep]
 | .hole, _ => by simp only [j.ep]
 | .bool _, _ => by simp only [j.ep]
 | .cO, _ => by simp only [j.ep]
 | .int _ _, _ => by simp only [j.ep]
 | .str _, _ => by simp only [j.ep]
 | .b7, _ => by simp only [j.ep]
 | .bB, _ => by simp only [j.ep]
 | .slice _, _ => by simp only [j.ep]
 | .aP _ _, _ => by simp only [j.ep]
 | .ref _, _ => by simp only [j.ep]
 | .bn _, _ => by simp only [j.ep]
 | .agg _, _ => by simp only [j.ep]
 | .tuple _, _ => by simp only [j.ep]
 | .b_ _, _ => by simp only [j.ep]
theorem x6 {s ah : ae} : ∀ (ds : List j), b8 (j.cE ds) ah s → j.lz ah ds = j.lz s ds
 | [], _ => rfl
 | d :: ds, h => by
   simp only [j.cE] at h
   simp only [j.lz]; rw [x5 d h.left, x6 ds h.right]
end
theorem ue {s ah : ae} {us : List Nat} (h : b8 (us.flatMap fun u => u :: (s u).R) ah s) : hG ah us = hG s us := by
 unfold hG
 refine List.map_congr_left fun u hu => ?_
 rw [h u (List.mem_flatMap.2 ⟨u, hu, by simp⟩)]
theorem uf {s ah : ae} : ∀ (L : List (Nat × j)), (∀ p ∈ L, b8 p.2.R ah s) → kc ah L = kc s L
 | [], _ => rfl
 | p :: L, h => by
   simp only [kc]; rw [x5 p.2 (h p (by simp)), uf L (fun q bR => h q (by simp [bR]))]
theorem x7 : ∀ (L : List (Nat × j)) (s : ae), kP s L = b0 (L.map fun p => ⟨.no, p.1, p.2⟩) s
 | [], s => rfl
 | p :: L, s => by
   simp only [kP, List.map_cons]
   rw [x7 L, tm]
   exact (hh [⟨.no, p.1, p.2⟩] _ s).symm
theorem D2 {s : ae} {aQ : du} {K : List Nat → j → ae → Prop} (h : jG C s aQ K) :
  ∃ bE av ms, K bE av (b0 ms s) ∧ (∀ m ∈ ms, m.x ∈ bE ∧ ∀ v ∈ m.d.R, ∃ u ∈ use s aQ, v ∈ (s u).R) ∧ ∀ ah, b8 (use s aQ) ah s → ∀ bY : j → ae → Prop, bY av (b0 ms ah) → i1 C ah aQ bY := by
 have plain : (∃ av s1, aR C s aQ = some (av, s1) ∧ K (bX s aQ) av s1) → (∀ ah (bY : j → ae → Prop) av s1, aR C ah aQ = some (av, s1) → bY av s1 → i1 C ah aQ bY) →
   ∃ bE av ms, K bE av (b0 ms s) ∧ (∀ m ∈ ms, m.x ∈ bE ∧ ∀ v ∈ m.d.R, ∃ u ∈ use s aQ, v ∈ (s u).R) ∧ ∀ ah, b8 (use s aQ) ah s → ∀ bY : j → ae → Prop, bY av (b0 ms ah) → i1 C ah aQ bY := by
  rintro ⟨av, s1, U, aa⟩ hw
  obtain ⟨ms, aC, aF, a6⟩ := xf U
  subst aC
  exact ⟨_, av, ms, aa, fun m hm => ⟨(aF m hm).1, fun v aA => by rw [(aF m hm).2] at aA; cases aA⟩, fun ah R bY ai => hw ah bY av _ (a6 ah R) ai⟩
 cases aQ with
 | call f args =>
   obtain ⟨bE, av, ms, bh, a2, a3⟩ := ud h
   exact ⟨bE, av, ms, bh, fun m hm => ⟨(a2 m hm).1, fun v aA => by rw [(a2 m hm).2] at aA; cases aA⟩, fun ah R bY ai => a3 ah R bY ai⟩
 | hV f args u x =>
   obtain ⟨ba, bg, af⟩ := h
   obtain ⟨bE, av, ms, ⟨bh, ug, D3⟩, a2, a3⟩ := ud af
   have e : ∀ s : ae, b4 (b0 ms s) u (.h x []) = b0 (ms ++ [⟨.no, u, .h x []⟩]) s := fun s => by rw [hh, ← tm]
   refine ⟨u :: bE, av, ms ++ [⟨.no, u, .h x []⟩], by rw [← e]; exact D3, ?_, ?_⟩
   ·intro m hm
    rcases List.mem_append.1 hm with hm | hm
    ·exact ⟨by simp [(a2 m hm).1], fun v aA => by rw [(a2 m hm).2] at aA; cases aA⟩
    ·simp only [List.mem_singleton] at hm; subst hm
     refine ⟨by simp, fun v aA => ⟨u, by simp [use], ?_⟩⟩
     rw [ba]; exact aA
   ·intro ah R bY ai
    have x8 : ah u = s u := R u (by simp [use])
    have ex : ah x = s x := R x (by simp [use])
    refine ⟨by rw [x8]; exact ba, by rw [ex]; exact bg, a3 ah (fun y aY => R y (by simp only [use, List.mem_cons] at aY ⊢; exact .inr (.inr aY))) _ ⟨?_, ?_, ?_⟩⟩
    ·have := bh; simp only [b0] at this ⊢; rw [x8]; exact this
    ·have := ug; simp only [b0] at this ⊢; rw [ex]; exact this
    ·rw [e]; exact ai
 | hW f args us =>
   obtain ⟨bg, af⟩ := h
   obtain ⟨bE, av, ms, ⟨bh, ug⟩, a2, a3⟩ := ud af
   have e : ∀ ah : ae, kP (b0 ms ah) (hG s us) = b0 (ms ++ (hG s us).map fun p => ⟨.no, p.1, p.2⟩) ah := fun ah => by rw [hh, x7]
   have hc : ∀ {ah : ae}, b8 (us.flatMap fun u => u :: (s u).R) ah s → ∀ p ∈ hG s us, b8 p.2.R ah s := fun {ah} R p al v aA => by
    obtain ⟨u, hu, rfl⟩ := List.mem_map.1 al
    exact R v (List.mem_flatMap.2 ⟨u, hu, by simp [aA]⟩)
   refine ⟨us ++ bE, av, ms ++ (hG s us).map fun p => ⟨.no, p.1, p.2⟩, by rw [← e]; exact ug, ?_, ?_⟩
   ·intro m hm
    rcases List.mem_append.1 hm with hm | hm
    ·exact ⟨by simp [(a2 m hm).1], fun v aA => by rw [(a2 m hm).2] at aA; cases aA⟩
    ·obtain ⟨p, al, rfl⟩ := List.mem_map.1 hm
     obtain ⟨u, hu, rfl⟩ := List.mem_map.1 al
     exact ⟨List.mem_append_left _ hu, fun v aA => ⟨u, by simp only [use, List.mem_append, List.mem_flatMap]; exact .inl ⟨u, hu, by simp⟩, aA⟩⟩
   ·intro ah R bY ai
    simp only [use] at R
    refine ⟨by rw [ue R.left, uf _ (hc R.left)]; exact bg, a3 ah R.right _ ⟨?_, ?_⟩⟩
    ·rw [ue R.left, uf _ (fun p al => (hc R.left p al).b0 ms)]; exact bh
    ·rw [ue R.left, e]; exact ai
 | shr aQ =>
   obtain ⟨av, s1, U, aa, aw, aH⟩ := h
   obtain ⟨ms, aC, aF, a6⟩ := xf U
   subst aC
   exact ⟨_, av.share, ms, aH, fun m hm => ⟨(aF m hm).1, fun v aA => by rw [(aF m hm).2] at aA; cases aA⟩, fun ah R bY ai => ⟨av, _, a6 ah R, aa, aw, ai⟩⟩
 | _ => exact plain h (fun ah bY av s1 U aa => ⟨av, s1, U, aa⟩)
theorem D4 {s : ae} {o : bf} {K : c3 → ae → Prop} (h : i5 C s o K) : ∃ gu ms, K gu (b0 ms s) ∧ ry C o s gu ms := by
 have op : ∀ (aV : List Nat), (∀ u ∈ use s o.aQ, u ∈ aV) → (∀ ah, b8 aV ah s → ∀ bY : ae → Prop, i1 C ah o.aQ (fun av s1 => bY (fin s1 o.dst av)) → hi C ah o bY) →
   jG C s o.aQ (fun bE av s1 => K (ff s aV o.dst bE av) (fin s1 o.dst av)) → ∃ gu ms, K gu (b0 ms s) ∧ ry C o s gu ms := by
  intro aV j4 h_ hw
  obtain ⟨bE, av, ms, U, aa, aw⟩ := D2 hw
  obtain ⟨gC, i6, eU⟩ := x4 o.dst av
  refine ⟨ff s aV o.dst bE av, ms ++ gC, ?_, ?_, ?_, rz.1, rz.2⟩
  ·rw [hh, ← eU]; exact U
  ·intro ah R bY ai
   refine h_ ah R bY (aw ah (R.sub j4) _ ?_)
   rw [eU, ← hh]; exact ai
  ·intro m hm
   simp only [ff, List.mem_append]
   rcases List.mem_append.1 hm with hm | hm
   ·refine ⟨.inr (aa m hm).1, fun v aA => .inl ?_⟩
    obtain ⟨u, hu, hv⟩ := (aa m hm).2 v aA
    exact List.mem_flatMap.2 ⟨u, j4 u hu, hv⟩
   ·exact ⟨.inl (i6 m hm).1, fun u hu => .inr (by rw [(i6 m hm).2] at hu; exact hu)⟩
 have skip : ∀ t, (∀ ah, b8 [t] ah s → ∀ bY : ae → Prop, bY (fin ah o.dst (.tuple [])) → hi C ah o bY) → K (ff s [t] o.dst [] (.tuple [])) (fin s o.dst (.tuple [])) → ∃ gu ms, K gu (b0 ms s) ∧ ry C o s gu ms := by
  intro t h_ ai
  obtain ⟨gC, i6, eU⟩ := x4 o.dst (.tuple [])
  refine ⟨_, gC, by rw [← eU]; exact ai, ?_, ?_, rz.1, rz.2⟩
  ·intro ah R bY hg
   exact h_ ah R bY (by rw [eU]; exact hg)
  ·intro m hm
   simp only [ff, List.mem_append]
   exact ⟨.inl (i6 m hm).1, fun u hu => by rw [(i6 m hm).2] at hu; simp [j.R] at hu⟩
 unfold i5 at h
 split at h
 ·rename_i aN
  exact op _ (fun _ h => h) (fun ah _ bY hw => by unfold hi; rw [aN]; exact hw) h
 ·rename_i t b aN
  split at h
  ·rename_i c9 J
   split at h
   ·rename_i e
    refine op (t :: use s o.aQ) (fun u hu => by simp [hu]) (fun ah R bY hw => ?_) h
    have : ah t = s t := R t (by simp)
    unfold hi
    rw [aN]
    simp only [this, J, if_pos e]
    exact hw
   ·rename_i e
    refine skip t (fun ah R bY ai => ?_) h
    have : ah t = s t := R t (by simp)
    unfold hi
    rw [aN]
    simp only [this, J, if_neg e]
    exact ai
  ·rename_i J
   refine skip t (fun ah R bY ai => ?_) h
   have : ah t = s t := R t (by simp)
   unfold hi
   rw [aN]
   simp only [this, J]
   exact ai
  ·exact h.elim
def lF (C : bl) (ros : List bf) : ae → List (Nat × c3 × List dI) → Prop
 | _, [] => True
 | s, e :: r => (∃ o, ros[e.1]? = some o ∧ ry C o s e.2.1 e.2.2) ∧ lF C ros (b0 e.2.2 s) r
def jH (s : ae) (r : List (Nat × c3 × List dI)) : ae := r.foldl (fun s e => b0 e.2.2 s) s
def iR (a b : List Nat) : Bool := a.all fun x => !b.contains x
theorem nR {a b : List Nat} (h : iR a b = true) : ∀ x ∈ a, x ∉ b := by
 intro x aj
 simp only [iR, List.all_eq_true] at h
 simpa using h x aj
def mI (a b : c3) : Bool := iR b.T a.aV && iR b.T a.H && iR b.T a.T && iR a.T b.aV && iR a.T b.H && b.c
theorem D5 {ros : List bf} {s : ae} {a b : Nat × c3 × List dI} {r : List (Nat × c3 × List dI)} (h : lF C ros s (a :: b :: r)) (ax : mI a.2.1 b.2.1 = true) :
  lF C ros s (b :: a :: r) ∧ jH s (b :: a :: r) = jH s (a :: b :: r) := by
 obtain ⟨⟨D6, bs, bh, a2, a3, a4⟩, ⟨b_, J, hz, fs, j5, dv⟩, aB⟩ := h
 simp only [mI, Bool.and_eq_true] at ax
 obtain ⟨⟨⟨⟨⟨la, jW⟩, l0⟩, su⟩, o3⟩, sx⟩ := ax
 have uh : ∀ u ∈ b.2.1.aV, b0 a.2.2 s u = s u := by
  intro u hu
  refine DO _ _ _ (fun m hm e => ?_) (dv sx u hu)
  exact nR su m.x (a2 m hm).1 (e ▸ hu)
 have ui : ∀ u ∈ a.2.1.aV, b0 b.2.2 s u = s u := by
  intro u hu
  refine DP _ _ _ fun m hm => ⟨fun e => ?_, fun aj => ?_⟩
  ·exact nR la m.x (fs m hm).1 (e ▸ hu)
  ·exact nR jW m.x (fs m hm).1 (a3 u hu _ aj)
 have x9 : b0 b.2.2 (b0 a.2.2 s) = b0 a.2.2 (b0 b.2.2 s) := by
  refine DR _ _ _ fun m hm n aL => ⟨fun e => ?_, fun h => ?_, fun h => ?_⟩
  ·exact nR l0 n.x (fs n aL).1 (e ▸ (a2 m hm).1)
  ·exact nR jW n.x (fs n aL).1 ((a2 m hm).2 _ h)
  ·exact nR o3 m.x (a2 m hm).1 ((fs n aL).2 _ h)
 refine ⟨⟨⟨b_, J, ?_, fs, ?_, ?_⟩, ⟨D6, bs, ?_, a2, ?_, ?_⟩, ?_⟩, ?_⟩
 ·intro ah R K ai
  exact hz ah (fun u hu => (R u hu).trans (uh u hu).symm) K ai
 ·intro u hu x aj
  exact j5 u hu x (by rw [uh u hu]; exact aj)
 ·intro af u hu
  have := dv af u hu
  rwa [uh u hu] at this
 ·intro ah R K ai
  exact bh ah (fun u hu => (R u hu).trans (ui u hu)) K ai
 ·intro u hu x aj
  rw [ui u hu] at aj
  exact a3 u hu x aj
 ·intro af u hu
  rw [ui u hu]
  exact a4 af u hu
 ·rw [← x9]; exact aB
 ·simp only [jH, List.foldl_cons]
  rw [x9]
theorem D7 {ros : List bf} {e : Nat × c3 × List dI} {post : List (Nat × c3 × List dI)} : ∀ (pre : List (Nat × c3 × List dI)) (s : ae), lF C ros s (pre ++ e :: post) → (∀ a ∈ pre, mI a.2.1 e.2.1 = true) →
  lF C ros s (e :: (pre ++ post)) ∧ jH s (e :: (pre ++ post)) = jH s (pre ++ e :: post) := by
 intro pre
 induction pre with
 | nil => intro s h _; exact ⟨h, rfl⟩
 | cons a pre ih =>
   intro s h ax
   obtain ⟨U, aa⟩ := h
   obtain ⟨g1, g2⟩ := ih _ aa fun b J => ax b (by simp [J])
   have af : lF C ros s (a :: e :: (pre ++ post)) := ⟨U, g1⟩
   obtain ⟨ba, bg⟩ := D5 af (ax a (by simp))
   refine ⟨ba, bg.trans ?_⟩
   simp only [jH, List.foldl_cons, List.cons_append] at g2 ⊢
   exact g2
end
def p2 : List (List Nat) → List (List Nat) → List (List Nat)
 | done, [] => done
 | done, a :: r => p2 (done ++ [a ++ a.flatMap fun e => (done[e]?).getD []]) r
def nS (dX : List (List Nat)) : List (List Nat) := p2 [] dX
theorem D8 {dX : List (List Nat)} {l : List Nat} (aI : ∀ u i v, l = u ++ i :: v → ∀ e ∈ (dX[i]?).getD [], e ∈ u) : ∀ (rest pre done : List (List Nat)), dX = pre ++ rest → done.length = pre.length →
  (∀ u i v, l = u ++ i :: v → ∀ e ∈ (done[i]?).getD [], e ∈ u) → ∀ u i v, l = u ++ i :: v → ∀ e ∈ ((p2 done rest)[i]?).getD [], e ∈ u := by
 intro rest
 induction rest with
 | nil => intro pre done _ _ h; exact h
 | cons a rest ih =>
   intro pre done x_ hlen h
   simp only [p2]
   refine ih (pre ++ [a]) _ (by simp [x_]) (by simp [hlen]) ?_
   intro u i v hu e he
   by_cases ax : i < done.length
   ·rw [List.getElem?_append_left ax] at he
    exact h u i v hu e he
   ·rw [List.getElem?_append_right (by omega)] at he
    by_cases wX : i - done.length = 0
    ·rw [wX] at he
     simp only [List.getElem?_cons_zero, Option.getD_some, List.mem_append, List.mem_flatMap] at he
     have ya : (dX[i]?).getD [] = a := by
      have : i = pre.length := by omega
      rw [x_, this, List.getElem?_append_right (Nat.le_refl _)]; simp
     rcases he with he | ⟨eh, tT, he⟩
     ·exact aI u i v hu e (by rw [ya]; exact he)
     ·have pL := aI u i v hu eh (by rw [ya]; exact tT)
      obtain ⟨wJ, wK, rfl⟩ := List.append_of_mem pL
      have := h wJ eh (wK ++ i :: v) (by rw [hu]; simp) e he
      simp [this]
    ·rw [List.getElem?_eq_none (by simp; omega)] at he
     simp at he
theorem D9 {dX : List (List Nat)} {l : List Nat} (aI : ∀ u i v, l = u ++ i :: v → ∀ e ∈ (dX[i]?).getD [], e ∈ u) : ∀ u i v, l = u ++ i :: v → ∀ e ∈ ((nS dX)[i]?).getD [], e ∈ u :=
 D8 aI dX [] [] rfl rfl fun u i v _ e he => by simp at he
def h0 (h1 : List (List Nat)) : Nat → List (Nat × c3) → List c3 → Bool
 | _, _, [] => true
 | ay, es, f :: ad => (es.all fun e => ((h1[ay]?).getD []).contains e.1 || mI e.2 f) && h0 h1 (ay + 1) ((ay, f) :: es) ad
def uj (h1 : List (List Nat)) (a b : Nat × c3 × List dI) : Prop := a.1 ∈ (h1[b.1]?).getD [] ∨ mI a.2.1 b.2.1 = true
theorem D_ {h1 : List (List Nat)} : ∀ (ef : List (Nat × c3 × List dI)) (ay : Nat) (es : List (Nat × c3)), ef.map (·.1) = (List.range ef.length).map (· + ay) → h0 h1 ay es (ef.map (·.2.1)) = true →
  ef.Pairwise (uj h1) ∧ ∀ e ∈ es, ∀ b ∈ ef, e.1 ∈ (h1[b.1]?).getD [] ∨ mI e.2 b.2.1 = true := by
 intro ef
 induction ef with
 | nil => intro ay es _ _; exact ⟨.nil, fun e _ b J => by cases J⟩
 | cons a ef ih =>
   intro ay es mJ eF
   rw [List.length_cons, List.range_succ_eq_map, List.map_cons, List.map_cons, List.map_map] at mJ
   simp only [List.cons.injEq, Nat.zero_add] at mJ
   obtain ⟨bx, mJ⟩ := mJ
   simp only [List.map_cons, h0, Bool.and_eq_true, List.all_eq_true, Bool.or_eq_true] at eF
   obtain ⟨U, aa⟩ := eF
   obtain ⟨g1, g2⟩ := ih (ay + 1) _ (by rw [mJ]; congr 1; funext x; simp; omega) aa
   refine ⟨.cons (fun b J => ?_) g1, fun e he b J => ?_⟩
   ·have := g2 (ay, a.2.1) (by simp) b J
    simp only [uj, bx]; exact this
   ·rcases List.mem_cons.1 J with rfl | J
    ·rw [bx]
     exact (U e he).imp (fun h => by simpa using h) id
    ·exact g2 e (by simp [he]) b J
section
variable {C : bl}
theorem Ea {K : Option (List c3) → ae → Prop} : ∀ (os pre : List bf) (s : ae) (acc : List c3), bu C s os (some acc) K →
  ∃ ef, lF C (pre ++ os) s ef ∧ ef.map (·.1) = (List.range os.length).map (· + pre.length) ∧ K (some ((ef.map (·.2.1)).reverse ++ acc)) (jH s ef) := by
 intro os
 induction os with
 | nil => intro pre s acc h; exact ⟨[], trivial, rfl, h⟩
 | cons o os ih =>
   intro pre s acc h
   obtain ⟨gu, ms, U, aa⟩ := D4 h
   obtain ⟨ef, g1, g2, g3⟩ := ih (pre ++ [o]) _ (gu :: acc) U
   refine ⟨(pre.length, gu, ms) :: ef, ⟨⟨o, ?_, aa⟩, ?_⟩, ?_, ?_⟩
   ·rw [List.getElem?_append_right (Nat.le_refl _)]; simp
   ·simpa using g1
   ·rw [List.length_cons, List.range_succ_eq_map, List.map_cons, List.map_cons, List.map_map, g2]
    simp only [List.cons.injEq, Nat.zero_add, true_and]
    congr 1; funext x; simp; omega
   ·simpa [jH] using g3
theorem Eb {ros : List bf} {h1 : List (List Nat)} {K : ae → Prop} : ∀ (l : List Nat) (ef : List (Nat × c3 × List dI)) (s : ae), lF C ros s ef → ef.Pairwise (uj h1) → l.Nodup → (ef.map (·.1)).Nodup →
  (∀ i, i ∈ l ↔ i ∈ ef.map (·.1)) → (∀ u i v, l = u ++ i :: v → ∀ e ∈ (h1[i]?).getD [], e ∈ ef.map (·.1) → e ∈ u) → K (jH s ef) → fV C ros s l K := by
 intro l
 induction l with
 | nil =>
   intro ef s _ _ _ _ hm _ ai
   cases ef with
   | nil => exact ai
   | cons e ef => have := (hm e.1).2 (by simp); cases this
 | cons i l ih =>
   intro ef s af al aL pE hm bo ai
   obtain ⟨e, he, ax⟩ := List.mem_map.1 ((hm i).1 (by simp))
   obtain ⟨pre, post, rfl⟩ := List.append_of_mem he
   have Ec : ∀ a ∈ pre, mI a.2.1 e.2.1 = true := by
    intro a bs
    have aB := (List.pairwise_append.1 al).2.2 a bs e (by simp)
    rcases aB with aB | aB
    ·rw [ax] at aB
     have := bo [] i l rfl a.1 aB (by simp only [List.map_append, List.mem_append, List.mem_map]; exact .inl ⟨a, bs, rfl⟩)
     cases this
    ·exact aB
   obtain ⟨g1, g2⟩ := D7 pre s af Ec
   obtain ⟨⟨o, uk, Ed⟩, g3⟩ := g1
   have yb : i ∉ (pre ++ post).map (·.1) := by
    have : (pre.map (·.1) ++ e.1 :: post.map (·.1)).Nodup := by simpa using pE
    have aS := (List.perm_middle.nodup_iff.1 this)
    rw [List.nodup_cons] at aS
    rw [← ax]; simpa using aS.1
   simp only [fV]
   rw [← ax, uk]
   refine Ed.1 s (fun _ _ => rfl) _ ?_
   rw [List.nodup_cons] at aL
   refine ih (pre ++ post) _ g3 ?_ aL.2 ?_ ?_ ?_ ?_
   ·exact al.sublist ((List.Sublist.refl pre).append (List.sublist_cons_self e post))
   ·have : (pre.map (·.1) ++ e.1 :: post.map (·.1)).Nodup := by simpa using pE
    have aS := (List.perm_middle.nodup_iff.1 this)
    rw [List.nodup_cons] at aS
    simpa using aS.2
   ·intro ay
    constructor
    ·intro bx
     have U := (hm ay).1 (by simp [bx])
     simp only [List.map_append, List.map_cons, List.mem_append, List.mem_cons] at U ⊢
     rcases U with U | rfl | U
     ·exact .inl U
     ·exact (aL.1 (ax ▸ bx)).elim
     ·exact .inr U
    ·intro bx
     have U := (hm ay).2 (by
      simp only [List.map_append, List.map_cons, List.mem_append, List.mem_cons] at bx ⊢
      exact bx.imp id .inr)
     rcases List.mem_cons.1 U with rfl | U
     ·exact (yb bx).elim
     ·exact U
   ·intro u ay v hu x aj um
    have U := bo (i :: u) ay v (by rw [hu]; rfl) x aj (by
     simp only [List.map_append, List.map_cons, List.mem_append, List.mem_cons] at um ⊢
     exact um.imp id .inr)
    rcases List.mem_cons.1 U with rfl | U
    ·exact (yb um).elim
    ·exact U
   ·have : jH s (e :: (pre ++ post)) = jH (b0 e.2.2 s) (pre ++ post) := rfl
    rw [← this, g2]; exact ai
theorem Ee {ros : List bf} {dX : List (List Nat)} {s : ae} {K : ae → Prop} (hlen : dX.length = ros.length)
  (h : bu C s ros (some []) (fun acc s => h0 (nS dX) 0 [] (acc.getD []).reverse = true ∧ K s)) : ∀ l, tR dX l → fV C ros s l K := by
 intro l ⟨fy, l2, rh⟩
 obtain ⟨ef, g1, g2, g3, g4⟩ := Ea ros [] s [] h
 simp only [List.nil_append, List.append_nil, List.length_nil, Option.getD_some, List.reverse_reverse] at g1 g2 g3
 have aI : ef.length = ros.length := by have := congrArg List.length g2; simpa using this
 have mJ : ef.map (·.1) = (List.range ef.length).map (· + 0) := by rw [g2, aI]
 have aB : ef.map (·.1) = List.range ros.length := by rw [g2]; simp
 obtain ⟨dq, _⟩ := D_ ef 0 [] mJ g3
 refine Eb l ef s g1 dq fy (by rw [aB]; exact List.nodup_range) (fun i => ?_) (fun u i v hu e he _ => D9 rh u i v hu e he) g4
 rw [aB, l2, hlen, List.mem_range]
end
def cc (C : bl) (dst : Option Nat) (os : List bf) (K : Option (List c3) → ae → Prop) : Option (j × ae) → Prop
 | some (av, s1) => bu C (fin s1 dst av) os none K
 | none => False
def cd (C : bl) (l : List (Nat × j)) (aV bE : List Nat) (dst : Option Nat) (os : List bf) (a : List c3) (K : Option (List c3) → ae → Prop) : Option (j × ae) → Prop
 | some (av, s1) => bu C (fin s1 dst av) os (some (ff (I l) aV dst bE av :: a)) K
 | none => False
def bm (C : bl) (l : List (Nat × j)) (dst : Option Nat) (aQ : du) (t : Nat) (b : Bool) (os : List bf) (acc : Option (List c3)) (K : Option (List c3) → ae → Prop) : j → Prop
 | .bool c9 => if c9 = b then jG C (I l) aQ (fun bE av s1 => bu C (fin s1 dst av) os (kU acc (ff (I l) (t :: use (I l) aQ) dst bE av)) K) else bu C (fin (I l) dst (.tuple [])) os (kU acc (ff (I l) [t] dst [] (.tuple []))) K
 | .tuple [] => bu C (fin (I l) dst (.tuple [])) os (kU acc (ff (I l) [t] dst [] (.tuple []))) K
 | _ => False
section
variable {C : bl} {l : List (Nat × j)} {os : List bf} {K : Option (List c3) → ae → Prop} {dst : Option Nat} {a : List c3} {acc : Option (List c3)}
theorem rA {s : ae} {aQ : du} {K : List Nat → j → ae → Prop} (aL : aQ.mG = false) : jG C s aQ K = (match aR C s aQ with
  | some (av, s1) => K (bX s aQ) av s1
  | none => False) := by
 apply propext
 constructor
 ·intro h
  cases aQ <;> first
   | (simp [du.mG] at aL; done)
   | (obtain ⟨av, s1, U, aa⟩ := h; rw [U]; exact aa)
 ·intro h
  split at h
  ·rename_i av s1 he
   cases aQ <;> first
    | (simp [du.mG] at aL; done)
    | exact ⟨av, s1, he, h⟩
  ·exact h.elim
theorem yc : bu C (I l) [] acc K = K acc (I l) := rfl
theorem fI {aQ : du} (aL : aQ.mG = false) : bu C (I l) (⟨dst, aQ, none⟩ :: os) none K = cc C dst os K (aR C (I l) aQ) := by
 simp only [bu, i5, kU]
 rw [rA aL]
 cases aR C (I l) aQ with
 | none => rfl
 | some p => rfl
theorem fJ {aQ : du} (aL : aQ.mG = false) : bu C (I l) (⟨dst, aQ, none⟩ :: os) (some a) K = cd C l (use (I l) aQ) (bX (I l) aQ) dst os a K (aR C (I l) aQ) := by
 simp only [bu, i5, kU]
 rw [rA aL]
 cases aR C (I l) aQ with
 | none => rfl
 | some p => rfl
theorem yd {aQ : du} {t : Nat} {b : Bool} : bu C (I l) (⟨dst, aQ, some (t, b)⟩ :: os) acc K = bm C l dst aQ t b os acc K (I l t) := by
 simp only [bu, i5]
 generalize I l t = v
 cases v <;> first | rfl | (rename_i vs; cases vs <;> rfl)
theorem c7 {aQ : du} {t : Nat} {b : Bool} (aL : aQ.mG = false) : bm C l dst aQ t b os none K (.bool b) = cc C dst os K (aR C (I l) aQ) := by
 simp only [bm, if_true]
 rw [rA aL]
 cases aR C (I l) aQ with
 | none => rfl
 | some p => rfl
theorem c8 {aQ : du} {t : Nat} {b : Bool} (aL : aQ.mG = false) : bm C l dst aQ t b os (some a) K (.bool b) = cd C l (t :: use (I l) aQ) (bX (I l) aQ) dst os a K (aR C (I l) aQ) := by
 simp only [bm, if_true]
 rw [rA aL]
 cases aR C (I l) aQ with
 | none => rfl
 | some p => rfl
theorem Ef {aQ : du} {t : Nat} : bm C l dst aQ t true os none K (.bool false) = bu C (fin (I l) dst (.tuple [])) os none K ∧ bm C l dst aQ t false os none K (.bool true) = bu C (fin (I l) dst (.tuple [])) os none K ∧
  (∀ b, bm C l dst aQ t b os none K (.tuple []) = bu C (fin (I l) dst (.tuple [])) os none K) := ⟨rfl, rfl, fun _ => rfl⟩
theorem Eg {aQ : du} {t : Nat} : bm C l dst aQ t true os (some a) K (.bool false) = bu C (fin (I l) dst (.tuple [])) os (some (ff (I l) [t] dst [] (.tuple []) :: a)) K ∧
  bm C l dst aQ t false os (some a) K (.bool true) = bu C (fin (I l) dst (.tuple [])) os (some (ff (I l) [t] dst [] (.tuple []) :: a)) K ∧
  (∀ b, bm C l dst aQ t b os (some a) K (.tuple []) = bu C (fin (I l) dst (.tuple [])) os (some (ff (I l) [t] dst [] (.tuple []) :: a)) K) := ⟨rfl, rfl, fun _ => rfl⟩
theorem Eh (av : j) (s1 : ae) : cc C dst os K (some (av, s1)) = bu C (fin s1 dst av) os none K := rfl
theorem Ei (aV bE : List Nat) (av : j) (s1 : ae) : cd C l aV bE dst os a K (some (av, s1)) = bu C (fin s1 dst av) os (some (ff (I l) aV dst bE av :: a)) K := rfl
def fB (s : ae) : j → Option (j × ae)
 | .h y q => bE s (.h y q)
 | d => some (d, s)
def lG (s : ae) : j → j → j → Option (j × ae)
 | .bool c9, x, y => some (if c9 then x else y, s)
 | _, _, _ => none
def bM (s : ae) : Option j → Option (j × ae)
 | some d => some (d, s)
 | none => none
def il : Option ae → Option (j × ae)
 | some s1 => some (.hole, s1)
 | none => none
def e7 (s : ae) : List aq → List j
 | [] => []
 | x :: xs => au s x :: e7 s xs
def gj (s : ae) : List (Nat × aq) → List (Nat × j)
 | [] => []
 | (k, x) :: xs => (k, au s x) :: gj s xs
def gX (s : ae) : Option aq → Option j
 | none => none
 | some x => some (au s x)
theorem i7 (s : ae) (x : Option j) : (x.map fun d => (d, s)) = bM s x := by cases x <;> rfl
theorem Ej (x : Option ae) : (x.map fun s1 => (j.hole, s1)) = il x := by cases x <;> rfl
theorem rB (s : ae) : ∀ xs : List aq, xs.map (au s) = e7 s xs
 | [] => rfl
 | x :: xs => by simp only [List.map_cons, e7, rB s xs]
theorem uo (s : ae) : ∀ xs : List (Nat × aq), (xs.map fun p => (p.1, au s p.2)) = gj s xs
 | [] => rfl
 | (k, x) :: xs => by simp only [List.map_cons, gj, uo s xs]
theorem Ek (s : ae) (x : Option aq) : x.map (au s) = gX s x := by cases x <;> rfl
theorem nT (x : aq) : aR C (I l) (.cK x) = some (au (I l) x, I l) := by
 rfl
theorem nU (x : aq) : aR C (I l) (.eo x) = fB (I l) (au (I l) x) := by
 simp only [aR]; cases au (I l) x <;> rfl
theorem nV (c x y : aq) : aR C (I l) (.pick c x y) = lG (I l) (au (I l) c) (au (I l) x) (au (I l) y) := by
 simp only [aR]; cases au (I l) c <;> first | rfl | (rename_i b; cases b <;> rfl)
theorem nW (T : TypeId) : aR C (I l) (.ek T) = bM (I l) (ek C T) := by
 simp only [aR, i7]
theorem nX (T : TypeId) (x : aq) : aR C (I l) (.da T x) = da (I l) (au (I l) x) := by
 rfl
theorem nY (T : TypeId) (ps : List (Nat × aq)) : aR C (I l) (.df T ps) = df C (I l) T (gj (I l) ps) := by
 simp only [aR, uo]
theorem nZ (T : TypeId) (n : Nat) (ps : List (Nat × aq)) : aR C (I l) (.cR T n ps) = cR C (I l) T n (gj (I l) ps) := by
 simp only [aR, uo]
theorem n0 (T : TypeId) (x : aq) : aR C (I l) (.cH T x) = bM (I l) (cH C (I l) T (au (I l) x)) := by
 simp only [aR, i7]
theorem n1 (T : TypeId) (x y : aq) : aR C (I l) (.dC T x y) = il (dC C (I l) T (au (I l) x) (au (I l) y)) := by
 simp only [aR, Ej]
theorem n2 (x : aq) : aR C (I l) (.dN x) = bM (I l) (dN (I l) (au (I l) x)) := by
 simp only [aR, i7]
theorem n3 (op : BinOp) (T : TypeId) (x y : aq) : aR C (I l) (.bW op T x y) = bM (I l) (bW C (I l) op T (au (I l) x) (au (I l) y)) := by
 simp only [aR, i7]
theorem n4 (op : UnOp) (x : aq) : aR C (I l) (.un op x) = bM (I l) (un op (au (I l) x)) := by
 simp only [aR, i7]
theorem n5 (A B : TypeId) (x : aq) : aR C (I l) (.dg A B x) = bM (I l) (dg C (I l) A B (au (I l) x)) := by
 simp only [aR, i7]
theorem n6 (f : FuncId) (cs : List aq) : aR C (I l) (.gp f cs) = some (.fn f (e7 (I l) cs), I l) := by
 simp only [aR, rB]
theorem n7 (T : TypeId) (x y : aq) : aR C (I l) (.en T x y) = bM (I l) (en C T (au (I l) x) (au (I l) y)) := by
 simp only [aR, i7]
theorem n8 (T : TypeId) (x : aq) (bV ax : Option aq) : aR C (I l) (.cU T x bV ax) = cU C (I l) T (au (I l) x) (gX (I l) bV) (gX (I l) ax) := by
 simp only [aR, Ek]
theorem n9 (T : TypeId) (x : aq) (k : Nat) : aR C (I l) (.dt T x k) = bM (I l) (dt C (I l) T (au (I l) x) k) := by
 simp only [aR, i7]
theorem n_ (T : TypeId) (x y : aq) : aR C (I l) (.dm T x y) = bM (I l) (dm C (I l) T (au (I l) x) (au (I l) y)) := by
 simp only [aR, i7]
theorem oa (T : TypeId) (x y : aq) : aR C (I l) (.idx T x y) = bM (I l) (idx C T (au (I l) x) (au (I l) y)) := by
 simp only [aR, i7]
theorem ob (x : aq) (k : Nat) : aR C (I l) (.ex x k) = bM (I l) (ex (I l) (au (I l) x) k) := by
 simp only [aR, i7]
theorem oc (T : TypeId) (x : aq) : aR C (I l) (.len T x) = bM (I l) (hB C (I l) T (au (I l) x)) := by
 simp only [aR, i7]
theorem od (T aV : TypeId) (x y : aq) : aR C (I l) (.app T aV x y) = hT C (I l) T aV (au (I l) x) (au (I l) y) := by
 rfl
theorem El :
  (∀ (x : aq) , bu C (I l) (⟨dst, .cK x, none⟩ :: os) none K = cc C dst os K (some (au (I l) x, I l))) ∧
  (∀ (x : aq) , bu C (I l) (⟨dst, .eo x, none⟩ :: os) none K = cc C dst os K (fB (I l) (au (I l) x))) ∧
  (∀ (c x y : aq) , bu C (I l) (⟨dst, .pick c x y, none⟩ :: os) none K = cc C dst os K (lG (I l) (au (I l) c) (au (I l) x) (au (I l) y))) ∧
  (∀ (T : TypeId) , bu C (I l) (⟨dst, .ek T, none⟩ :: os) none K = cc C dst os K (bM (I l) (ek C T))) ∧
  (∀ (T : TypeId) (x : aq) , bu C (I l) (⟨dst, .da T x, none⟩ :: os) none K = cc C dst os K (da (I l) (au (I l) x))) ∧
  (∀ (T : TypeId) (ps : List (Nat × aq)) , bu C (I l) (⟨dst, .df T ps, none⟩ :: os) none K = cc C dst os K (df C (I l) T (gj (I l) ps))) ∧
  (∀ (T : TypeId) (n : Nat) (ps : List (Nat × aq)) , bu C (I l) (⟨dst, .cR T n ps, none⟩ :: os) none K = cc C dst os K (cR C (I l) T n (gj (I l) ps))) ∧
  (∀ (T : TypeId) (x : aq) , bu C (I l) (⟨dst, .cH T x, none⟩ :: os) none K = cc C dst os K (bM (I l) (cH C (I l) T (au (I l) x)))) ∧
  (∀ (T : TypeId) (x y : aq) , bu C (I l) (⟨dst, .dC T x y, none⟩ :: os) none K = cc C dst os K (il (dC C (I l) T (au (I l) x) (au (I l) y)))) ∧
  (∀ (x : aq) , bu C (I l) (⟨dst, .dN x, none⟩ :: os) none K = cc C dst os K (bM (I l) (dN (I l) (au (I l) x)))) ∧
  (∀ (op : BinOp) (T : TypeId) (x y : aq) , bu C (I l) (⟨dst, .bW op T x y, none⟩ :: os) none K = cc C dst os K (bM (I l) (bW C (I l) op T (au (I l) x) (au (I l) y)))) ∧
  (∀ (op : UnOp) (x : aq) , bu C (I l) (⟨dst, .un op x, none⟩ :: os) none K = cc C dst os K (bM (I l) (un op (au (I l) x)))) ∧
  (∀ (A B : TypeId) (x : aq) , bu C (I l) (⟨dst, .dg A B x, none⟩ :: os) none K = cc C dst os K (bM (I l) (dg C (I l) A B (au (I l) x)))) ∧
  (∀ (f : FuncId) (cs : List aq) , bu C (I l) (⟨dst, .gp f cs, none⟩ :: os) none K = cc C dst os K (some (.fn f (e7 (I l) cs), I l))) ∧
  (∀ (T : TypeId) (x y : aq) , bu C (I l) (⟨dst, .en T x y, none⟩ :: os) none K = cc C dst os K (bM (I l) (en C T (au (I l) x) (au (I l) y)))) ∧
  (∀ (T : TypeId) (x : aq) (bV ax : Option aq) , bu C (I l) (⟨dst, .cU T x bV ax, none⟩ :: os) none K = cc C dst os K (cU C (I l) T (au (I l) x) (gX (I l) bV) (gX (I l) ax))) ∧
  (∀ (T : TypeId) (x : aq) (k : Nat) , bu C (I l) (⟨dst, .dt T x k, none⟩ :: os) none K = cc C dst os K (bM (I l) (dt C (I l) T (au (I l) x) k))) ∧
  (∀ (T : TypeId) (x y : aq) , bu C (I l) (⟨dst, .dm T x y, none⟩ :: os) none K = cc C dst os K (bM (I l) (dm C (I l) T (au (I l) x) (au (I l) y)))) ∧
  (∀ (T : TypeId) (x y : aq) , bu C (I l) (⟨dst, .idx T x y, none⟩ :: os) none K = cc C dst os K (bM (I l) (idx C T (au (I l) x) (au (I l) y)))) ∧
  (∀ (x : aq) (k : Nat) , bu C (I l) (⟨dst, .ex x k, none⟩ :: os) none K = cc C dst os K (bM (I l) (ex (I l) (au (I l) x) k))) ∧
  (∀ (T : TypeId) (x : aq) , bu C (I l) (⟨dst, .len T x, none⟩ :: os) none K = cc C dst os K (bM (I l) (hB C (I l) T (au (I l) x)))) ∧
  (∀ (T aV : TypeId) (x y : aq) , bu C (I l) (⟨dst, .app T aV x y, none⟩ :: os) none K = cc C dst os K (hT C (I l) T aV (au (I l) x) (au (I l) y))) :=
 ⟨fun x => (fI rfl).trans (congrArg _ (nT x)), fun x => (fI rfl).trans (congrArg _ (nU x)), fun c x y => (fI rfl).trans (congrArg _ (nV c x y)), fun T => (fI rfl).trans (congrArg _ (nW T)), fun T x => (fI rfl).trans (congrArg _ (nX T x)), fun T ps => (fI rfl).trans (congrArg _ (nY T ps)), fun T n ps => (fI rfl).trans (congrArg _ (nZ T n ps)), fun T x => (fI rfl).trans (congrArg _ (n0 T x)), fun T x y => (fI rfl).trans (congrArg _ (n1 T x y)), fun x => (fI rfl).trans (congrArg _ (n2 x)), fun op T x y => (fI rfl).trans (congrArg _ (n3 op T x y)), fun op x => (fI rfl).trans (congrArg _ (n4 op x)), fun A B x => (fI rfl).trans (congrArg _ (n5 A B x)), fun f cs => (fI rfl).trans (congrArg _ (n6 f cs)), fun T x y => (fI rfl).trans (congrArg _ (n7 T x y)), fun T x bV ax => (fI rfl).trans (congrArg _ (n8 T x bV ax)), fun T x k => (fI rfl).trans (congrArg _ (n9 T x k)), fun T x y => (fI rfl).trans (congrArg _ (n_ T x y)), fun T x y => (fI rfl).trans (congrArg _ (oa T x y)), fun x k => (fI rfl).trans (congrArg _ (ob x k)), fun T x => (fI rfl).trans (congrArg _ (oc T x)), fun T aV x y => (fI rfl).trans (congrArg _ (od T aV x y))⟩
theorem Em :
  (∀ (x : aq) , bu C (I l) (⟨dst, .cK x, none⟩ :: os) (some a) K = cd C l (use (I l) (.cK x)) (bX (I l) (.cK x)) dst os a K (some (au (I l) x, I l))) ∧
  (∀ (x : aq) , bu C (I l) (⟨dst, .eo x, none⟩ :: os) (some a) K = cd C l (use (I l) (.eo x)) (bX (I l) (.eo x)) dst os a K (fB (I l) (au (I l) x))) ∧
  (∀ (c x y : aq) , bu C (I l) (⟨dst, .pick c x y, none⟩ :: os) (some a) K = cd C l (use (I l) (.pick c x y)) (bX (I l) (.pick c x y)) dst os a K (lG (I l) (au (I l) c) (au (I l) x) (au (I l) y))) ∧
  (∀ (T : TypeId) , bu C (I l) (⟨dst, .ek T, none⟩ :: os) (some a) K = cd C l (use (I l) (.ek T)) (bX (I l) (.ek T)) dst os a K (bM (I l) (ek C T))) ∧
  (∀ (T : TypeId) (x : aq) , bu C (I l) (⟨dst, .da T x, none⟩ :: os) (some a) K = cd C l (use (I l) (.da T x)) (bX (I l) (.da T x)) dst os a K (da (I l) (au (I l) x))) ∧
  (∀ (T : TypeId) (ps : List (Nat × aq)) , bu C (I l) (⟨dst, .df T ps, none⟩ :: os) (some a) K = cd C l (use (I l) (.df T ps)) (bX (I l) (.df T ps)) dst os a K (df C (I l) T (gj (I l) ps))) ∧
  (∀ (T : TypeId) (n : Nat) (ps : List (Nat × aq)) , bu C (I l) (⟨dst, .cR T n ps, none⟩ :: os) (some a) K = cd C l (use (I l) (.cR T n ps)) (bX (I l) (.cR T n ps)) dst os a K (cR C (I l) T n (gj (I l) ps))) ∧
  (∀ (T : TypeId) (x : aq) , bu C (I l) (⟨dst, .cH T x, none⟩ :: os) (some a) K = cd C l (use (I l) (.cH T x)) (bX (I l) (.cH T x)) dst os a K (bM (I l) (cH C (I l) T (au (I l) x)))) ∧
  (∀ (T : TypeId) (x y : aq) , bu C (I l) (⟨dst, .dC T x y, none⟩ :: os) (some a) K = cd C l (use (I l) (.dC T x y)) (bX (I l) (.dC T x y)) dst os a K (il (dC C (I l) T (au (I l) x) (au (I l) y)))) ∧
  (∀ (x : aq) , bu C (I l) (⟨dst, .dN x, none⟩ :: os) (some a) K = cd C l (use (I l) (.dN x)) (bX (I l) (.dN x)) dst os a K (bM (I l) (dN (I l) (au (I l) x)))) ∧
  (∀ (op : BinOp) (T : TypeId) (x y : aq) , bu C (I l) (⟨dst, .bW op T x y, none⟩ :: os) (some a) K = cd C l (use (I l) (.bW op T x y)) (bX (I l) (.bW op T x y)) dst os a K (bM (I l) (bW C (I l) op T (au (I l) x) (au (I l) y)))) ∧
  (∀ (op : UnOp) (x : aq) , bu C (I l) (⟨dst, .un op x, none⟩ :: os) (some a) K = cd C l (use (I l) (.un op x)) (bX (I l) (.un op x)) dst os a K (bM (I l) (un op (au (I l) x)))) ∧
  (∀ (A B : TypeId) (x : aq) , bu C (I l) (⟨dst, .dg A B x, none⟩ :: os) (some a) K = cd C l (use (I l) (.dg A B x)) (bX (I l) (.dg A B x)) dst os a K (bM (I l) (dg C (I l) A B (au (I l) x)))) ∧
  (∀ (f : FuncId) (cs : List aq) , bu C (I l) (⟨dst, .gp f cs, none⟩ :: os) (some a) K = cd C l (use (I l) (.gp f cs)) (bX (I l) (.gp f cs)) dst os a K (some (.fn f (e7 (I l) cs), I l))) ∧
  (∀ (T : TypeId) (x y : aq) , bu C (I l) (⟨dst, .en T x y, none⟩ :: os) (some a) K = cd C l (use (I l) (.en T x y)) (bX (I l) (.en T x y)) dst os a K (bM (I l) (en C T (au (I l) x) (au (I l) y)))) ∧
  (∀ (T : TypeId) (x : aq) (bV ax : Option aq) , bu C (I l) (⟨dst, .cU T x bV ax, none⟩ :: os) (some a) K = cd C l (use (I l) (.cU T x bV ax)) (bX (I l) (.cU T x bV ax)) dst os a K (cU C (I l) T (au (I l) x) (gX (I l) bV) (gX (I l) ax))) ∧
  (∀ (T : TypeId) (x : aq) (k : Nat) , bu C (I l) (⟨dst, .dt T x k, none⟩ :: os) (some a) K = cd C l (use (I l) (.dt T x k)) (bX (I l) (.dt T x k)) dst os a K (bM (I l) (dt C (I l) T (au (I l) x) k))) ∧
  (∀ (T : TypeId) (x y : aq) , bu C (I l) (⟨dst, .dm T x y, none⟩ :: os) (some a) K = cd C l (use (I l) (.dm T x y)) (bX (I l) (.dm T x y)) dst os a K (bM (I l) (dm C (I l) T (au (I l) x) (au (I l) y)))) ∧
  (∀ (T : TypeId) (x y : aq) , bu C (I l) (⟨dst, .idx T x y, none⟩ :: os) (some a) K = cd C l (use (I l) (.idx T x y)) (bX (I l) (.idx T x y)) dst os a K (bM (I l) (idx C T (au (I l) x) (au (I l) y)))) ∧
  (∀ (x : aq) (k : Nat) , bu C (I l) (⟨dst, .ex x k, none⟩ :: os) (some a) K = cd C l (use (I l) (.ex x k)) (bX (I l) (.ex x k)) dst os a K (bM (I l) (ex (I l) (au (I l) x) k))) ∧
  (∀ (T : TypeId) (x : aq) , bu C (I l) (⟨dst, .len T x, none⟩ :: os) (some a) K = cd C l (use (I l) (.len T x)) (bX (I l) (.len T x)) dst os a K (bM (I l) (hB C (I l) T (au (I l) x)))) ∧
  (∀ (T aV : TypeId) (x y : aq) , bu C (I l) (⟨dst, .app T aV x y, none⟩ :: os) (some a) K = cd C l (use (I l) (.app T aV x y)) (bX (I l) (.app T aV x y)) dst os a K (hT C (I l) T aV (au (I l) x) (au (I l) y))) :=
 ⟨fun x => (fJ rfl).trans (congrArg _ (nT x)), fun x => (fJ rfl).trans (congrArg _ (nU x)), fun c x y => (fJ rfl).trans (congrArg _ (nV c x y)), fun T => (fJ rfl).trans (congrArg _ (nW T)), fun T x => (fJ rfl).trans (congrArg _ (nX T x)), fun T ps => (fJ rfl).trans (congrArg _ (nY T ps)), fun T n ps => (fJ rfl).trans (congrArg _ (nZ T n ps)), fun T x => (fJ rfl).trans (congrArg _ (n0 T x)), fun T x y => (fJ rfl).trans (congrArg _ (n1 T x y)), fun x => (fJ rfl).trans (congrArg _ (n2 x)), fun op T x y => (fJ rfl).trans (congrArg _ (n3 op T x y)), fun op x => (fJ rfl).trans (congrArg _ (n4 op x)), fun A B x => (fJ rfl).trans (congrArg _ (n5 A B x)), fun f cs => (fJ rfl).trans (congrArg _ (n6 f cs)), fun T x y => (fJ rfl).trans (congrArg _ (n7 T x y)), fun T x bV ax => (fJ rfl).trans (congrArg _ (n8 T x bV ax)), fun T x k => (fJ rfl).trans (congrArg _ (n9 T x k)), fun T x y => (fJ rfl).trans (congrArg _ (n_ T x y)), fun T x y => (fJ rfl).trans (congrArg _ (oa T x y)), fun x k => (fJ rfl).trans (congrArg _ (ob x k)), fun T x => (fJ rfl).trans (congrArg _ (oc T x)), fun T aV x y => (fJ rfl).trans (congrArg _ (od T aV x y))⟩
theorem En :
  (∀ (x : aq) (t : Nat), bm C l dst (.cK x) t true os none K (.bool true) = cc C dst os K (some (au (I l) x, I l))) ∧
  (∀ (x : aq) (t : Nat), bm C l dst (.cK x) t false os none K (.bool false) = cc C dst os K (some (au (I l) x, I l))) ∧
  (∀ (x : aq) (t : Nat), bm C l dst (.eo x) t true os none K (.bool true) = cc C dst os K (fB (I l) (au (I l) x))) ∧
  (∀ (x : aq) (t : Nat), bm C l dst (.eo x) t false os none K (.bool false) = cc C dst os K (fB (I l) (au (I l) x))) ∧
  (∀ (c x y : aq) (t : Nat), bm C l dst (.pick c x y) t true os none K (.bool true) = cc C dst os K (lG (I l) (au (I l) c) (au (I l) x) (au (I l) y))) ∧
  (∀ (c x y : aq) (t : Nat), bm C l dst (.pick c x y) t false os none K (.bool false) = cc C dst os K (lG (I l) (au (I l) c) (au (I l) x) (au (I l) y))) ∧
  (∀ (T : TypeId) (t : Nat), bm C l dst (.ek T) t true os none K (.bool true) = cc C dst os K (bM (I l) (ek C T))) ∧
  (∀ (T : TypeId) (t : Nat), bm C l dst (.ek T) t false os none K (.bool false) = cc C dst os K (bM (I l) (ek C T))) ∧
  (∀ (T : TypeId) (x : aq) (t : Nat), bm C l dst (.da T x) t true os none K (.bool true) = cc C dst os K (da (I l) (au (I l) x))) ∧
  (∀ (T : TypeId) (x : aq) (t : Nat), bm C l dst (.da T x) t false os none K (.bool false) = cc C dst os K (da (I l) (au (I l) x))) ∧
  (∀ (T : TypeId) (ps : List (Nat × aq)) (t : Nat), bm C l dst (.df T ps) t true os none K (.bool true) = cc C dst os K (df C (I l) T (gj (I l) ps))) ∧
  (∀ (T : TypeId) (ps : List (Nat × aq)) (t : Nat), bm C l dst (.df T ps) t false os none K (.bool false) = cc C dst os K (df C (I l) T (gj (I l) ps))) ∧
  (∀ (T : TypeId) (n : Nat) (ps : List (Nat × aq)) (t : Nat), bm C l dst (.cR T n ps) t true os none K (.bool true) = cc C dst os K (cR C (I l) T n (gj (I l) ps))) ∧
  (∀ (T : TypeId) (n : Nat) (ps : List (Nat × aq)) (t : Nat), bm C l dst (.cR T n ps) t false os none K (.bool false) = cc C dst os K (cR C (I l) T n (gj (I l) ps))) ∧
  (∀ (T : TypeId) (x : aq) (t : Nat), bm C l dst (.cH T x) t true os none K (.bool true) = cc C dst os K (bM (I l) (cH C (I l) T (au (I l) x)))) ∧
  (∀ (T : TypeId) (x : aq) (t : Nat), bm C l dst (.cH T x) t false os none K (.bool false) = cc C dst os K (bM (I l) (cH C (I l) T (au (I l) x)))) ∧
  (∀ (T : TypeId) (x y : aq) (t : Nat), bm C l dst (.dC T x y) t true os none K (.bool true) = cc C dst os K (il (dC C (I l) T (au (I l) x) (au (I l) y)))) ∧
  (∀ (T : TypeId) (x y : aq) (t : Nat), bm C l dst (.dC T x y) t false os none K (.bool false) = cc C dst os K (il (dC C (I l) T (au (I l) x) (au (I l) y)))) ∧
  (∀ (x : aq) (t : Nat), bm C l dst (.dN x) t true os none K (.bool true) = cc C dst os K (bM (I l) (dN (I l) (au (I l) x)))) ∧
  (∀ (x : aq) (t : Nat), bm C l dst (.dN x) t false os none K (.bool false) = cc C dst os K (bM (I l) (dN (I l) (au (I l) x)))) ∧
  (∀ (op : BinOp) (T : TypeId) (x y : aq) (t : Nat), bm C l dst (.bW op T x y) t true os none K (.bool true) = cc C dst os K (bM (I l) (bW C (I l) op T (au (I l) x) (au (I l) y)))) ∧
  (∀ (op : BinOp) (T : TypeId) (x y : aq) (t : Nat), bm C l dst (.bW op T x y) t false os none K (.bool false) = cc C dst os K (bM (I l) (bW C (I l) op T (au (I l) x) (au (I l) y)))) ∧
  (∀ (op : UnOp) (x : aq) (t : Nat), bm C l dst (.un op x) t true os none K (.bool true) = cc C dst os K (bM (I l) (un op (au (I l) x)))) ∧
  (∀ (op : UnOp) (x : aq) (t : Nat), bm C l dst (.un op x) t false os none K (.bool false) = cc C dst os K (bM (I l) (un op (au (I l) x)))) ∧
  (∀ (A B : TypeId) (x : aq) (t : Nat), bm C l dst (.dg A B x) t true os none K (.bool true) = cc C dst os K (bM (I l) (dg C (I l) A B (au (I l) x)))) ∧
  (∀ (A B : TypeId) (x : aq) (t : Nat), bm C l dst (.dg A B x) t false os none K (.bool false) = cc C dst os K (bM (I l) (dg C (I l) A B (au (I l) x)))) ∧
  (∀ (f : FuncId) (cs : List aq) (t : Nat), bm C l dst (.gp f cs) t true os none K (.bool true) = cc C dst os K (some (.fn f (e7 (I l) cs), I l))) ∧
  (∀ (f : FuncId) (cs : List aq) (t : Nat), bm C l dst (.gp f cs) t false os none K (.bool false) = cc C dst os K (some (.fn f (e7 (I l) cs), I l))) ∧
  (∀ (T : TypeId) (x y : aq) (t : Nat), bm C l dst (.en T x y) t true os none K (.bool true) = cc C dst os K (bM (I l) (en C T (au (I l) x) (au (I l) y)))) ∧
  (∀ (T : TypeId) (x y : aq) (t : Nat), bm C l dst (.en T x y) t false os none K (.bool false) = cc C dst os K (bM (I l) (en C T (au (I l) x) (au (I l) y)))) ∧
  (∀ (T : TypeId) (x : aq) (bV ax : Option aq) (t : Nat), bm C l dst (.cU T x bV ax) t true os none K (.bool true) = cc C dst os K (cU C (I l) T (au (I l) x) (gX (I l) bV) (gX (I l) ax))) ∧
  (∀ (T : TypeId) (x : aq) (bV ax : Option aq) (t : Nat), bm C l dst (.cU T x bV ax) t false os none K (.bool false) = cc C dst os K (cU C (I l) T (au (I l) x) (gX (I l) bV) (gX (I l) ax))) ∧
  (∀ (T : TypeId) (x : aq) (k : Nat) (t : Nat), bm C l dst (.dt T x k) t true os none K (.bool true) = cc C dst os K (bM (I l) (dt C (I l) T (au (I l) x) k))) ∧
  (∀ (T : TypeId) (x : aq) (k : Nat) (t : Nat), bm C l dst (.dt T x k) t false os none K (.bool false) = cc C dst os K (bM (I l) (dt C (I l) T (au (I l) x) k))) ∧
  (∀ (T : TypeId) (x y : aq) (t : Nat), bm C l dst (.dm T x y) t true os none K (.bool true) = cc C dst os K (bM (I l) (dm C (I l) T (au (I l) x) (au (I l) y)))) ∧
  (∀ (T : TypeId) (x y : aq) (t : Nat), bm C l dst (.dm T x y) t false os none K (.bool false) = cc C dst os K (bM (I l) (dm C (I l) T (au (I l) x) (au (I l) y)))) ∧
  (∀ (T : TypeId) (x y : aq) (t : Nat), bm C l dst (.idx T x y) t true os none K (.bool true) = cc C dst os K (bM (I l) (idx C T (au (I l) x) (au (I l) y)))) ∧
  (∀ (T : TypeId) (x y : aq) (t : Nat), bm C l dst (.idx T x y) t false os none K (.bool false) = cc C dst os K (bM (I l) (idx C T (au (I l) x) (au (I l) y)))) ∧
  (∀ (x : aq) (k : Nat) (t : Nat), bm C l dst (.ex x k) t true os none K (.bool true) = cc C dst os K (bM (I l) (ex (I l) (au (I l) x) k))) ∧
  (∀ (x : aq) (k : Nat) (t : Nat), bm C l dst (.ex x k) t false os none K (.bool false) = cc C dst os K (bM (I l) (ex (I l) (au (I l) x) k))) ∧
  (∀ (T : TypeId) (x : aq) (t : Nat), bm C l dst (.len T x) t true os none K (.bool true) = cc C dst os K (bM (I l) (hB C (I l) T (au (I l) x)))) ∧
  (∀ (T : TypeId) (x : aq) (t : Nat), bm C l dst (.len T x) t false os none K (.bool false) = cc C dst os K (bM (I l) (hB C (I l) T (au (I l) x)))) ∧
  (∀ (T aV : TypeId) (x y : aq) (t : Nat), bm C l dst (.app T aV x y) t true os none K (.bool true) = cc C dst os K (hT C (I l) T aV (au (I l) x) (au (I l) y))) ∧
  (∀ (T aV : TypeId) (x y : aq) (t : Nat), bm C l dst (.app T aV x y) t false os none K (.bool false) = cc C dst os K (hT C (I l) T aV (au (I l) x) (au (I l) y))) :=
 ⟨fun x _ => (c7 rfl).trans (congrArg _ (nT x)), fun x _ => (c7 rfl).trans (congrArg _ (nT x)), fun x _ => (c7 rfl).trans (congrArg _ (nU x)), fun x _ => (c7 rfl).trans (congrArg _ (nU x)), fun c x y _ => (c7 rfl).trans (congrArg _ (nV c x y)), fun c x y _ => (c7 rfl).trans (congrArg _ (nV c x y)), fun T _ => (c7 rfl).trans (congrArg _ (nW T)), fun T _ => (c7 rfl).trans (congrArg _ (nW T)), fun T x _ => (c7 rfl).trans (congrArg _ (nX T x)), fun T x _ => (c7 rfl).trans (congrArg _ (nX T x)), fun T ps _ => (c7 rfl).trans (congrArg _ (nY T ps)), fun T ps _ => (c7 rfl).trans (congrArg _ (nY T ps)), fun T n ps _ => (c7 rfl).trans (congrArg _ (nZ T n ps)), fun T n ps _ => (c7 rfl).trans (congrArg _ (nZ T n ps)), fun T x _ => (c7 rfl).trans (congrArg _ (n0 T x)), fun T x _ => (c7 rfl).trans (congrArg _ (n0 T x)), fun T x y _ => (c7 rfl).trans (congrArg _ (n1 T x y)), fun T x y _ => (c7 rfl).trans (congrArg _ (n1 T x y)), fun x _ => (c7 rfl).trans (congrArg _ (n2 x)), fun x _ => (c7 rfl).trans (congrArg _ (n2 x)), fun op T x y _ => (c7 rfl).trans (congrArg _ (n3 op T x y)), fun op T x y _ => (c7 rfl).trans (congrArg _ (n3 op T x y)), fun op x _ => (c7 rfl).trans (congrArg _ (n4 op x)), fun op x _ => (c7 rfl).trans (congrArg _ (n4 op x)), fun A B x _ => (c7 rfl).trans (congrArg _ (n5 A B x)), fun A B x _ => (c7 rfl).trans (congrArg _ (n5 A B x)), fun f cs _ => (c7 rfl).trans (congrArg _ (n6 f cs)), fun f cs _ => (c7 rfl).trans (congrArg _ (n6 f cs)), fun T x y _ => (c7 rfl).trans (congrArg _ (n7 T x y)), fun T x y _ => (c7 rfl).trans (congrArg _ (n7 T x y)), fun T x bV ax _ => (c7 rfl).trans (congrArg _ (n8 T x bV ax)), fun T x bV ax _ => (c7 rfl).trans (congrArg _ (n8 T x bV ax)), fun T x k _ => (c7 rfl).trans (congrArg _ (n9 T x k)), fun T x k _ => (c7 rfl).trans (congrArg _ (n9 T x k)), fun T x y _ => (c7 rfl).trans (congrArg _ (n_ T x y)), fun T x y _ => (c7 rfl).trans (congrArg _ (n_ T x y)), fun T x y _ => (c7 rfl).trans (congrArg _ (oa T x y)), fun T x y _ => (c7 rfl).trans (congrArg _ (oa T x y)), fun x k _ => (c7 rfl).trans (congrArg _ (ob x k)), fun x k _ => (c7 rfl).trans (congrArg _ (ob x k)), fun T x _ => (c7 rfl).trans (congrArg _ (oc T x)), fun T x _ => (c7 rfl).trans (congrArg _ (oc T x)), fun T aV x y _ => (c7 rfl).trans (congrArg _ (od T aV x y)), fun T aV x y _ => (c7 rfl).trans (congrArg _ (od T aV x y))⟩
theorem Eo :
  (∀ (x : aq) (t : Nat), bm C l dst (.cK x) t true os (some a) K (.bool true) = cd C l (t :: use (I l) (.cK x)) (bX (I l) (.cK x)) dst os a K (some (au (I l) x, I l))) ∧
  (∀ (x : aq) (t : Nat), bm C l dst (.cK x) t false os (some a) K (.bool false) = cd C l (t :: use (I l) (.cK x)) (bX (I l) (.cK x)) dst os a K (some (au (I l) x, I l))) ∧
  (∀ (x : aq) (t : Nat), bm C l dst (.eo x) t true os (some a) K (.bool true) = cd C l (t :: use (I l) (.eo x)) (bX (I l) (.eo x)) dst os a K (fB (I l) (au (I l) x))) ∧
  (∀ (x : aq) (t : Nat), bm C l dst (.eo x) t false os (some a) K (.bool false) = cd C l (t :: use (I l) (.eo x)) (bX (I l) (.eo x)) dst os a K (fB (I l) (au (I l) x))) ∧
  (∀ (c x y : aq) (t : Nat), bm C l dst (.pick c x y) t true os (some a) K (.bool true) = cd C l (t :: use (I l) (.pick c x y)) (bX (I l) (.pick c x y)) dst os a K (lG (I l) (au (I l) c) (au (I l) x) (au (I l) y))) ∧
  (∀ (c x y : aq) (t : Nat), bm C l dst (.pick c x y) t false os (some a) K (.bool false) = cd C l (t :: use (I l) (.pick c x y)) (bX (I l) (.pick c x y)) dst os a K (lG (I l) (au (I l) c) (au (I l) x) (au (I l) y))) ∧
  (∀ (T : TypeId) (t : Nat), bm C l dst (.ek T) t true os (some a) K (.bool true) = cd C l (t :: use (I l) (.ek T)) (bX (I l) (.ek T)) dst os a K (bM (I l) (ek C T))) ∧
  (∀ (T : TypeId) (t : Nat), bm C l dst (.ek T) t false os (some a) K (.bool false) = cd C l (t :: use (I l) (.ek T)) (bX (I l) (.ek T)) dst os a K (bM (I l) (ek C T))) ∧
  (∀ (T : TypeId) (x : aq) (t : Nat), bm C l dst (.da T x) t true os (some a) K (.bool true) = cd C l (t :: use (I l) (.da T x)) (bX (I l) (.da T x)) dst os a K (da (I l) (au (I l) x))) ∧
  (∀ (T : TypeId) (x : aq) (t : Nat), bm C l dst (.da T x) t false os (some a) K (.bool false) = cd C l (t :: use (I l) (.da T x)) (bX (I l) (.da T x)) dst os a K (da (I l) (au (I l) x))) ∧
  (∀ (T : TypeId) (ps : List (Nat × aq)) (t : Nat), bm C l dst (.df T ps) t true os (some a) K (.bool true) = cd C l (t :: use (I l) (.df T ps)) (bX (I l) (.df T ps)) dst os a K (df C (I l) T (gj (I l) ps))) ∧
  (∀ (T : TypeId) (ps : List (Nat × aq)) (t : Nat), bm C l dst (.df T ps) t false os (some a) K (.bool false) = cd C l (t :: use (I l) (.df T ps)) (bX (I l) (.df T ps)) dst os a K (df C (I l) T (gj (I l) ps))) ∧
  (∀ (T : TypeId) (n : Nat) (ps : List (Nat × aq)) (t : Nat), bm C l dst (.cR T n ps) t true os (some a) K (.bool true) = cd C l (t :: use (I l) (.cR T n ps)) (bX (I l) (.cR T n ps)) dst os a K (cR C (I l) T n (gj (I l) ps))) ∧
  (∀ (T : TypeId) (n : Nat) (ps : List (Nat × aq)) (t : Nat), bm C l dst (.cR T n ps) t false os (some a) K (.bool false) = cd C l (t :: use (I l) (.cR T n ps)) (bX (I l) (.cR T n ps)) dst os a K (cR C (I l) T n (gj (I l) ps))) ∧
  (∀ (T : TypeId) (x : aq) (t : Nat), bm C l dst (.cH T x) t true os (some a) K (.bool true) = cd C l (t :: use (I l) (.cH T x)) (bX (I l) (.cH T x)) dst os a K (bM (I l) (cH C (I l) T (au (I l) x)))) ∧
  (∀ (T : TypeId) (x : aq) (t : Nat), bm C l dst (.cH T x) t false os (some a) K (.bool false) = cd C l (t :: use (I l) (.cH T x)) (bX (I l) (.cH T x)) dst os a K (bM (I l) (cH C (I l) T (au (I l) x)))) ∧
  (∀ (T : TypeId) (x y : aq) (t : Nat), bm C l dst (.dC T x y) t true os (some a) K (.bool true) = cd C l (t :: use (I l) (.dC T x y)) (bX (I l) (.dC T x y)) dst os a K (il (dC C (I l) T (au (I l) x) (au (I l) y)))) ∧
  (∀ (T : TypeId) (x y : aq) (t : Nat), bm C l dst (.dC T x y) t false os (some a) K (.bool false) = cd C l (t :: use (I l) (.dC T x y)) (bX (I l) (.dC T x y)) dst os a K (il (dC C (I l) T (au (I l) x) (au (I l) y)))) ∧
  (∀ (x : aq) (t : Nat), bm C l dst (.dN x) t true os (some a) K (.bool true) = cd C l (t :: use (I l) (.dN x)) (bX (I l) (.dN x)) dst os a K (bM (I l) (dN (I l) (au (I l) x)))) ∧
  (∀ (x : aq) (t : Nat), bm C l dst (.dN x) t false os (some a) K (.bool false) = cd C l (t :: use (I l) (.dN x)) (bX (I l) (.dN x)) dst os a K (bM (I l) (dN (I l) (au (I l) x)))) ∧
  (∀ (op : BinOp) (T : TypeId) (x y : aq) (t : Nat), bm C l dst (.bW op T x y) t true os (some a) K (.bool true) = cd C l (t :: use (I l) (.bW op T x y)) (bX (I l) (.bW op T x y)) dst os a K (bM (I l) (bW C (I l) op T (au (I l) x) (au (I l) y)))) ∧
  (∀ (op : BinOp) (T : TypeId) (x y : aq) (t : Nat), bm C l dst (.bW op T x y) t false os (some a) K (.bool false) = cd C l (t :: use (I l) (.bW op T x y)) (bX (I l) (.bW op T x y)) dst os a K (bM (I l) (bW C (I l) op T (au (I l) x) (au (I l) y)))) ∧
  (∀ (op : UnOp) (x : aq) (t : Nat), bm C l dst (.un op x) t true os (some a) K (.bool true) = cd C l (t :: use (I l) (.un op x)) (bX (I l) (.un op x)) dst os a K (bM (I l) (un op (au (I l) x)))) ∧
  (∀ (op : UnOp) (x : aq) (t : Nat), bm C l dst (.un op x) t false os (some a) K (.bool false) = cd C l (t :: use (I l) (.un op x)) (bX (I l) (.un op x)) dst os a K (bM (I l) (un op (au (I l) x)))) ∧
  (∀ (A B : TypeId) (x : aq) (t : Nat), bm C l dst (.dg A B x) t true os (some a) K (.bool true) = cd C l (t :: use (I l) (.dg A B x)) (bX (I l) (.dg A B x)) dst os a K (bM (I l) (dg C (I l) A B (au (I l) x)))) ∧
  (∀ (A B : TypeId) (x : aq) (t : Nat), bm C l dst (.dg A B x) t false os (some a) K (.bool false) = cd C l (t :: use (I l) (.dg A B x)) (bX (I l) (.dg A B x)) dst os a K (bM (I l) (dg C (I l) A B (au (I l) x)))) ∧
  (∀ (f : FuncId) (cs : List aq) (t : Nat), bm C l dst (.gp f cs) t true os (some a) K (.bool true) = cd C l (t :: use (I l) (.gp f cs)) (bX (I l) (.gp f cs)) dst os a K (some (.fn f (e7 (I l) cs), I l))) ∧
  (∀ (f : FuncId) (cs : List aq) (t : Nat), bm C l dst (.gp f cs) t false os (some a) K (.bool false) = cd C l (t :: use (I l) (.gp f cs)) (bX (I l) (.gp f cs)) dst os a K (some (.fn f (e7 (I l) cs), I l))) ∧
  (∀ (T : TypeId) (x y : aq) (t : Nat), bm C l dst (.en T x y) t true os (some a) K (.bool true) = cd C l (t :: use (I l) (.en T x y)) (bX (I l) (.en T x y)) dst os a K (bM (I l) (en C T (au (I l) x) (au (I l) y)))) ∧
  (∀ (T : TypeId) (x y : aq) (t : Nat), bm C l dst (.en T x y) t false os (some a) K (.bool false) = cd C l (t :: use (I l) (.en T x y)) (bX (I l) (.en T x y)) dst os a K (bM (I l) (en C T (au (I l) x) (au (I l) y)))) ∧
  (∀ (T : TypeId) (x : aq) (bV ax : Option aq) (t : Nat), bm C l dst (.cU T x bV ax) t true os (some a) K (.bool true) = cd C l (t :: use (I l) (.cU T x bV ax)) (bX (I l) (.cU T x bV ax)) dst os a K (cU C (I l) T (au (I l) x) (gX (I l) bV) (gX (I l) ax))) ∧
  (∀ (T : TypeId) (x : aq) (bV ax : Option aq) (t : Nat), bm C l dst (.cU T x bV ax) t false os (some a) K (.bool false) = cd C l (t :: use (I l) (.cU T x bV ax)) (bX (I l) (.cU T x bV ax)) dst os a K (cU C (I l) T (au (I l) x) (gX (I l) bV) (gX (I l) ax))) ∧
  (∀ (T : TypeId) (x : aq) (k : Nat) (t : Nat), bm C l dst (.dt T x k) t true os (some a) K (.bool true) = cd C l (t :: use (I l) (.dt T x k)) (bX (I l) (.dt T x k)) dst os a K (bM (I l) (dt C (I l) T (au (I l) x) k))) ∧
  (∀ (T : TypeId) (x : aq) (k : Nat) (t : Nat), bm C l dst (.dt T x k) t false os (some a) K (.bool false) = cd C l (t :: use (I l) (.dt T x k)) (bX (I l) (.dt T x k)) dst os a K (bM (I l) (dt C (I l) T (au (I l) x) k))) ∧
  (∀ (T : TypeId) (x y : aq) (t : Nat), bm C l dst (.dm T x y) t true os (some a) K (.bool true) = cd C l (t :: use (I l) (.dm T x y)) (bX (I l) (.dm T x y)) dst os a K (bM (I l) (dm C (I l) T (au (I l) x) (au (I l) y)))) ∧
  (∀ (T : TypeId) (x y : aq) (t : Nat), bm C l dst (.dm T x y) t false os (some a) K (.bool false) = cd C l (t :: use (I l) (.dm T x y)) (bX (I l) (.dm T x y)) dst os a K (bM (I l) (dm C (I l) T (au (I l) x) (au (I l) y)))) ∧
  (∀ (T : TypeId) (x y : aq) (t : Nat), bm C l dst (.idx T x y) t true os (some a) K (.bool true) = cd C l (t :: use (I l) (.idx T x y)) (bX (I l) (.idx T x y)) dst os a K (bM (I l) (idx C T (au (I l) x) (au (I l) y)))) ∧
  (∀ (T : TypeId) (x y : aq) (t : Nat), bm C l dst (.idx T x y) t false os (some a) K (.bool false) = cd C l (t :: use (I l) (.idx T x y)) (bX (I l) (.idx T x y)) dst os a K (bM (I l) (idx C T (au (I l) x) (au (I l) y)))) ∧
  (∀ (x : aq) (k : Nat) (t : Nat), bm C l dst (.ex x k) t true os (some a) K (.bool true) = cd C l (t :: use (I l) (.ex x k)) (bX (I l) (.ex x k)) dst os a K (bM (I l) (ex (I l) (au (I l) x) k))) ∧
  (∀ (x : aq) (k : Nat) (t : Nat), bm C l dst (.ex x k) t false os (some a) K (.bool false) = cd C l (t :: use (I l) (.ex x k)) (bX (I l) (.ex x k)) dst os a K (bM (I l) (ex (I l) (au (I l) x) k))) ∧
  (∀ (T : TypeId) (x : aq) (t : Nat), bm C l dst (.len T x) t true os (some a) K (.bool true) = cd C l (t :: use (I l) (.len T x)) (bX (I l) (.len T x)) dst os a K (bM (I l) (hB C (I l) T (au (I l) x)))) ∧
  (∀ (T : TypeId) (x : aq) (t : Nat), bm C l dst (.len T x) t false os (some a) K (.bool false) = cd C l (t :: use (I l) (.len T x)) (bX (I l) (.len T x)) dst os a K (bM (I l) (hB C (I l) T (au (I l) x)))) ∧
  (∀ (T aV : TypeId) (x y : aq) (t : Nat), bm C l dst (.app T aV x y) t true os (some a) K (.bool true) = cd C l (t :: use (I l) (.app T aV x y)) (bX (I l) (.app T aV x y)) dst os a K (hT C (I l) T aV (au (I l) x) (au (I l) y))) ∧
  (∀ (T aV : TypeId) (x y : aq) (t : Nat), bm C l dst (.app T aV x y) t false os (some a) K (.bool false) = cd C l (t :: use (I l) (.app T aV x y)) (bX (I l) (.app T aV x y)) dst os a K (hT C (I l) T aV (au (I l) x) (au (I l) y))) :=
 ⟨fun x _ => (c8 rfl).trans (congrArg _ (nT x)), fun x _ => (c8 rfl).trans (congrArg _ (nT x)), fun x _ => (c8 rfl).trans (congrArg _ (nU x)), fun x _ => (c8 rfl).trans (congrArg _ (nU x)), fun c x y _ => (c8 rfl).trans (congrArg _ (nV c x y)), fun c x y _ => (c8 rfl).trans (congrArg _ (nV c x y)), fun T _ => (c8 rfl).trans (congrArg _ (nW T)), fun T _ => (c8 rfl).trans (congrArg _ (nW T)), fun T x _ => (c8 rfl).trans (congrArg _ (nX T x)), fun T x _ => (c8 rfl).trans (congrArg _ (nX T x)), fun T ps _ => (c8 rfl).trans (congrArg _ (nY T ps)), fun T ps _ => (c8 rfl).trans (congrArg _ (nY T ps)), fun T n ps _ => (c8 rfl).trans (congrArg _ (nZ T n ps)), fun T n ps _ => (c8 rfl).trans (congrArg _ (nZ T n ps)), fun T x _ => (c8 rfl).trans (congrArg _ (n0 T x)), fun T x _ => (c8 rfl).trans (congrArg _ (n0 T x)), fun T x y _ => (c8 rfl).trans (congrArg _ (n1 T x y)), fun T x y _ => (c8 rfl).trans (congrArg _ (n1 T x y)), fun x _ => (c8 rfl).trans (congrArg _ (n2 x)), fun x _ => (c8 rfl).trans (congrArg _ (n2 x)), fun op T x y _ => (c8 rfl).trans (congrArg _ (n3 op T x y)), fun op T x y _ => (c8 rfl).trans (congrArg _ (n3 op T x y)), fun op x _ => (c8 rfl).trans (congrArg _ (n4 op x)), fun op x _ => (c8 rfl).trans (congrArg _ (n4 op x)), fun A B x _ => (c8 rfl).trans (congrArg _ (n5 A B x)), fun A B x _ => (c8 rfl).trans (congrArg _ (n5 A B x)), fun f cs _ => (c8 rfl).trans (congrArg _ (n6 f cs)), fun f cs _ => (c8 rfl).trans (congrArg _ (n6 f cs)), fun T x y _ => (c8 rfl).trans (congrArg _ (n7 T x y)), fun T x y _ => (c8 rfl).trans (congrArg _ (n7 T x y)), fun T x bV ax _ => (c8 rfl).trans (congrArg _ (n8 T x bV ax)), fun T x bV ax _ => (c8 rfl).trans (congrArg _ (n8 T x bV ax)), fun T x k _ => (c8 rfl).trans (congrArg _ (n9 T x k)), fun T x k _ => (c8 rfl).trans (congrArg _ (n9 T x k)), fun T x y _ => (c8 rfl).trans (congrArg _ (n_ T x y)), fun T x y _ => (c8 rfl).trans (congrArg _ (n_ T x y)), fun T x y _ => (c8 rfl).trans (congrArg _ (oa T x y)), fun T x y _ => (c8 rfl).trans (congrArg _ (oa T x y)), fun x k _ => (c8 rfl).trans (congrArg _ (ob x k)), fun x k _ => (c8 rfl).trans (congrArg _ (ob x k)), fun T x _ => (c8 rfl).trans (congrArg _ (oc T x)), fun T x _ => (c8 rfl).trans (congrArg _ (oc T x)), fun T aV x y _ => (c8 rfl).trans (congrArg _ (od T aV x y)), fun T aV x y _ => (c8 rfl).trans (congrArg _ (od T aV x y))⟩
end
theorem ye :
  (∀ (t : Nat) (k : IntKind) (n : Int), fm t (.int k n) = (.int k n)) ∧
  (∀ (t : Nat) (b : Bool), fm t (.bool b) = (.bool b)) ∧
  (∀ (t : Nat) (x : List UInt8), fm t (.str x) = (.str x)) ∧
  (∀ (t : Nat) (xs : List j), fm t (.slice xs) = (.slice xs)) ∧
  (∀ (t : Nat) (d : j), fm t (.ref d) = (.ref d)) ∧
  (∀ (t : Nat) (f : FuncId) (cap : List j), fm t (.fn f cap) = (.fn f cap)) ∧
  (∀ (t : Nat) (x : Nat) (q : List Nat), fm t (.h x q) = (.h x q)) ∧
  (∀ (t : Nat) (x : Nat) (q : List Nat), fm t (.al x q) = (.al x q)) ∧
  (∀ (t : Nat) , fm t .b7 = .b7) ∧
  (∀ (t : Nat) , fm t .bB = .bB) ∧
  (∀ (t : Nat) , fm t .cO = .cO) ∧
  (∀ (t : Nat) , fm t .hole = .hole) ∧
  (∀ (t : Nat) (sz : Nat) (xs : List j), fm t (.aP sz xs) = .h t []) ∧
  (∀ (t : Nat) (d : j), fm t (.bn d) = .h t []) ∧
  (∀ (t : Nat) (ad : List j), fm t (.agg ad) = if j.dd ad = true then (.agg ad) else .h t []) ∧
  (∀ (t : Nat) (ad : List j), fm t (.tuple ad) = if j.dd ad = true then (.tuple ad) else .h t []) :=
 ⟨fun _ _ _ => rfl, fun _ _ => rfl, fun _ _ => rfl, fun _ _ => rfl, fun _ _ => rfl, fun _ _ _ => rfl, fun _ _ _ => rfl, fun _ _ _ => rfl, fun _  => rfl, fun _  => rfl, fun _  => rfl, fun _  => rfl, fun _ _ _ => rfl, fun _ _ => rfl, fun _ _ => rfl, fun _ _ => rfl⟩
theorem yf :
  (∀ (l : List (Nat × j)) (av : j), fin (I l) none av = I l) ∧
  (∀ (l : List (Nat × j)) (t : Nat) (k : IntKind) (n : Int), fin (I l) (some t) (.int k n) = I ((t, (.int k n)) :: l)) ∧
  (∀ (l : List (Nat × j)) (t : Nat) (b : Bool), fin (I l) (some t) (.bool b) = I ((t, (.bool b)) :: l)) ∧
  (∀ (l : List (Nat × j)) (t : Nat) (x : List UInt8), fin (I l) (some t) (.str x) = I ((t, (.str x)) :: l)) ∧
  (∀ (l : List (Nat × j)) (t : Nat) (xs : List j), fin (I l) (some t) (.slice xs) = I ((t, (.slice xs)) :: l)) ∧
  (∀ (l : List (Nat × j)) (t : Nat) (d : j), fin (I l) (some t) (.ref d) = I ((t, (.ref d)) :: l)) ∧
  (∀ (l : List (Nat × j)) (t : Nat) (f : FuncId) (cap : List j), fin (I l) (some t) (.fn f cap) = I ((t, (.fn f cap)) :: l)) ∧
  (∀ (l : List (Nat × j)) (t : Nat) (x : Nat) (q : List Nat), fin (I l) (some t) (.h x q) = I ((t, (.h x q)) :: l)) ∧
  (∀ (l : List (Nat × j)) (t : Nat) (x : Nat) (q : List Nat), fin (I l) (some t) (.al x q) = I ((t, (.al x q)) :: l)) ∧
  (∀ (l : List (Nat × j)) (t : Nat) , fin (I l) (some t) .b7 = I ((t, .b7) :: l)) ∧
  (∀ (l : List (Nat × j)) (t : Nat) , fin (I l) (some t) .bB = I ((t, .bB) :: l)) ∧
  (∀ (l : List (Nat × j)) (t : Nat) , fin (I l) (some t) .cO = I ((t, .cO) :: l)) ∧
  (∀ (l : List (Nat × j)) (t : Nat) , fin (I l) (some t) .hole = I ((t, .hole) :: l)) ∧
  (∀ (l : List (Nat × j)) (t : Nat) (sz : Nat) (xs : List j), fin (I l) (some t) (.aP sz xs) = I ((t, (.aP sz xs)) :: i4 t l)) ∧
  (∀ (l : List (Nat × j)) (t : Nat) (d : j), fin (I l) (some t) (.bn d) = I ((t, (.bn d)) :: i4 t l)) ∧
  (∀ (l : List (Nat × j)) (t : Nat) (ad : List j), fin (I l) (some t) (.agg ad) = I ((t, (.agg ad)) :: if j.dd ad = true then l else i4 t l)) ∧
  (∀ (l : List (Nat × j)) (t : Nat) (ad : List j), fin (I l) (some t) (.tuple ad) = I ((t, (.tuple ad)) :: if j.dd ad = true then l else i4 t l)) :=
 ⟨fun _ _ => rfl, fun l t _ _ => by simp only [fin, j.plain, if_true, gG], fun l t _ => by simp only [fin, j.plain, if_true, gG], fun l t _ => by simp only [fin, j.plain, if_true, gG], fun l t _ => by simp only [fin, j.plain, if_true, gG], fun l t _ => by simp only [fin, j.plain, if_true, gG], fun l t _ _ => by simp only [fin, j.plain, if_true, gG], fun l t _ _ => by simp only [fin, j.plain, if_true, gG], fun l t _ _ => by simp only [fin, j.plain, if_true, gG], fun l t  => by simp only [fin, j.plain, if_true, gG], fun l t  => by simp only [fin, j.plain, if_true, gG], fun l t  => by simp only [fin, j.plain, if_true, gG], fun l t  => by simp only [fin, j.plain, if_true, gG], fun l t _ _ => by simp only [fin, j.plain, Bool.false_eq_true, if_false, nO, gG], fun l t _ => by simp only [fin, j.plain, Bool.false_eq_true, if_false, nO, gG], fun l t _ => by simp only [fin, j.plain, nO, gG]; split <;> rfl, fun l t _ => by simp only [fin, j.plain, nO, gG]; split <;> rfl⟩
theorem yg :
  (∀ (k : IntKind) (n : Int), j.plain (.int k n) = true) ∧
  (∀ (b : Bool), j.plain (.bool b) = true) ∧
  (∀ (x : List UInt8), j.plain (.str x) = true) ∧
  (∀ (xs : List j), j.plain (.slice xs) = true) ∧
  (∀ (d : j), j.plain (.ref d) = true) ∧
  (∀ (f : FuncId) (cap : List j), j.plain (.fn f cap) = true) ∧
  (∀ (x : Nat) (q : List Nat), j.plain (.h x q) = true) ∧
  (∀ (x : Nat) (q : List Nat), j.plain (.al x q) = true) ∧
  (j.plain .b7 = true) ∧
  (j.plain .bB = true) ∧
  (j.plain .cO = true) ∧
  (j.plain .hole = true) ∧
  (∀ (sz : Nat) (xs : List j), j.plain (.aP sz xs) = false) ∧
  (∀ (d : j), j.plain (.bn d) = false) ∧
  (∀ (ad : List j), j.plain (.agg ad) = j.dd ad) ∧
  (∀ (ad : List j), j.plain (.tuple ad) = j.dd ad) ∧
  (j.dd [] = true) ∧
  (∀ d ds, j.dd (d :: ds) = (d.plain && j.dd ds)) :=
 ⟨fun _ _ => rfl, fun _ => rfl, fun _ => rfl, fun _ => rfl, fun _ => rfl, fun _ _ => rfl, fun _ _ => rfl, fun _ _ => rfl, rfl, rfl, rfl, rfl, fun _ _ => rfl, fun _ => rfl, fun _ => rfl, fun _ => rfl, rfl, fun _ _ => rfl⟩
theorem yh :
  (∀ (s : ae) (k : IntKind) (n : Int), fB s (.int k n) = some ((.int k n), s)) ∧
  (∀ (s : ae) (b : Bool), fB s (.bool b) = some ((.bool b), s)) ∧
  (∀ (s : ae) (x : List UInt8), fB s (.str x) = some ((.str x), s)) ∧
  (∀ (s : ae) (xs : List j), fB s (.slice xs) = some ((.slice xs), s)) ∧
  (∀ (s : ae) (d : j), fB s (.ref d) = some ((.ref d), s)) ∧
  (∀ (s : ae) (f : FuncId) (cap : List j), fB s (.fn f cap) = some ((.fn f cap), s)) ∧
  (∀ (s : ae) (x : Nat) (q : List Nat), fB s (.al x q) = some ((.al x q), s)) ∧
  (∀ (s : ae) , fB s .b7 = some (.b7, s)) ∧
  (∀ (s : ae) , fB s .bB = some (.bB, s)) ∧
  (∀ (s : ae) , fB s .cO = some (.cO, s)) ∧
  (∀ (s : ae) , fB s .hole = some (.hole, s)) ∧
  (∀ (s : ae) (sz : Nat) (xs : List j), fB s (.aP sz xs) = some ((.aP sz xs), s)) ∧
  (∀ (s : ae) (d : j), fB s (.bn d) = some ((.bn d), s)) ∧
  (∀ (s : ae) (ad : List j), fB s (.agg ad) = some ((.agg ad), s)) ∧
  (∀ (s : ae) (ad : List j), fB s (.tuple ad) = some ((.tuple ad), s)) ∧
  (∀ (s : ae) y q, fB s (.h y q) = bE s (.h y q)) :=
 ⟨fun _ _ _ => rfl, fun _ _ => rfl, fun _ _ => rfl, fun _ _ => rfl, fun _ _ => rfl, fun _ _ _ => rfl, fun _ _ _ => rfl, fun _  => rfl, fun _  => rfl, fun _  => rfl, fun _  => rfl, fun _ _ _ => rfl, fun _ _ => rfl, fun _ _ => rfl, fun _ _ => rfl, fun _ _ _ => rfl⟩
theorem yi :
  (∀ (t : Nat) (k : IntKind) (n : Int), bz t (.int k n) = (.int k n)) ∧
  (∀ (t : Nat) (b : Bool), bz t (.bool b) = (.bool b)) ∧
  (∀ (t : Nat) (x : List UInt8), bz t (.str x) = (.str x)) ∧
  (∀ (t : Nat) (xs : List j), bz t (.slice xs) = (.slice xs)) ∧
  (∀ (t : Nat) (d : j), bz t (.ref d) = (.ref d)) ∧
  (∀ (t : Nat) , bz t .b7 = .b7) ∧
  (∀ (t : Nat) , bz t .bB = .bB) ∧
  (∀ (t : Nat) , bz t .cO = .cO) ∧
  (∀ (t : Nat) , bz t .hole = .hole) ∧
  (∀ (t : Nat) (sz : Nat) (xs : List j), bz t (.aP sz xs) = (.aP sz xs)) ∧
  (∀ (t : Nat) (d : j), bz t (.bn d) = (.bn d)) ∧
  (∀ (t : Nat) (ad : List j), bz t (.agg ad) = (.agg ad)) ∧
  (∀ (t : Nat) (ad : List j), bz t (.tuple ad) = (.tuple ad)) ∧
  (∀ (t y : Nat) q, bz t (.h y q) = if y = t then .hole else .h y q) ∧
  (∀ (t y : Nat) q, bz t (.al y q) = if y = t then .hole else .al y q) ∧
  (∀ (t : Nat) f c, bz t (.fn f c) = .fn f (fl t c)) ∧
  (∀ t, fl t [] = []) ∧
  (∀ t d ds, fl t (d :: ds) = bz t d :: fl t ds) ∧
  (∀ t, i4 t [] = []) ∧
  (∀ t u d l, i4 t ((u, d) :: l) = (u, bz t d) :: i4 t l) ∧
  (∀ t l, hb t (I l) = I (i4 t l)) :=
 ⟨fun _ _ _ => by unfold bz; rfl, fun _ _ => by unfold bz; rfl, fun _ _ => by unfold bz; rfl, fun _ _ => by unfold bz; rfl, fun _ _ => by unfold bz; rfl, fun _  => by unfold bz; rfl, fun _  => by unfold bz; rfl, fun _  => by unfold bz; rfl, fun _  => by unfold bz; rfl, fun _ _ _ => by unfold bz; rfl, fun _ _ => by unfold bz; rfl, fun _ _ => by unfold bz; rfl, fun _ _ => by unfold bz; rfl, fun _ _ _ => by unfold bz; rfl, fun _ _ _ => by unfold bz; rfl, fun _ _ _ => by simp only [bz], fun _ => by simp only [fl], fun _ _ _ => by simp only [fl], fun _ => rfl, fun _ _ _ _ => rfl, fun t l => nO t l⟩
theorem yj :
  (∀ (t : Nat) (k : IntKind) (n : Int), bd t (.int k n) = (.int k n)) ∧
  (∀ (t : Nat) (b : Bool), bd t (.bool b) = (.bool b)) ∧
  (∀ (t : Nat) (x : List UInt8), bd t (.str x) = (.str x)) ∧
  (∀ (t : Nat) (xs : List j), bd t (.slice xs) = (.slice xs)) ∧
  (∀ (t : Nat) (d : j), bd t (.ref d) = (.ref d)) ∧
  (∀ (t : Nat) , bd t .b7 = .b7) ∧
  (∀ (t : Nat) , bd t .bB = .bB) ∧
  (∀ (t : Nat) , bd t .cO = .cO) ∧
  (∀ (t : Nat) , bd t .hole = .hole) ∧
  (∀ (t : Nat) (sz : Nat) (xs : List j), bd t (.aP sz xs) = (.aP sz xs)) ∧
  (∀ (t : Nat) (d : j), bd t (.bn d) = (.bn d)) ∧
  (∀ (t : Nat) (ad : List j), bd t (.agg ad) = (.agg ad)) ∧
  (∀ (t : Nat) (ad : List j), bd t (.tuple ad) = (.tuple ad)) ∧
  (∀ (t y : Nat), bd t (.h y []) = .h y []) ∧
  (∀ (t y k : Nat) q, bd t (.h y (k :: q)) = if y = t then .hole else .h y (k :: q)) ∧
  (∀ (t y : Nat) q, bd t (.al y q) = if y = t then .hole else .al y q) ∧
  (∀ (t : Nat) f c, bd t (.fn f c) = .fn f (eZ t c)) ∧
  (∀ t, eZ t [] = []) ∧
  (∀ t d ds, eZ t (d :: ds) = bd t d :: eZ t ds) ∧
  (∀ t, mF t [] = []) ∧
  (∀ t u d l, mF t ((u, d) :: l) = (u, bd t d) :: mF t l) ∧
  (∀ t l, fa t (I l) = I (mF t l)) :=
 ⟨fun _ _ _ => by unfold bd; rfl, fun _ _ => by unfold bd; rfl, fun _ _ => by unfold bd; rfl, fun _ _ => by unfold bd; rfl, fun _ _ => by unfold bd; rfl, fun _  => by unfold bd; rfl, fun _  => by unfold bd; rfl, fun _  => by unfold bd; rfl, fun _  => by unfold bd; rfl, fun _ _ _ => by unfold bd; rfl, fun _ _ => by unfold bd; rfl, fun _ _ => by unfold bd; rfl, fun _ _ => by unfold bd; rfl, fun _ _ => by simp [bd], fun _ _ _ _ => by simp [bd], fun _ _ _ => by unfold bd; rfl, fun _ _ _ => by simp only [bd], fun _ => by simp only [eZ], fun _ _ _ => by simp only [eZ], fun _ => rfl, fun _ _ _ _ => rfl, fun t l => DK t l⟩
def uq : iI → Bool → Option j
 | .bool, b => some (.bool b)
 | _, _ => none
def mK (neg : Bool) : iI → Option (Option Bool) → Option j
 | .slice _, some r => some (ph neg r)
 | _, _ => none
def mL (neg : Bool) : iI → Option Bool → Option j
 | .ptr _, some b => some (.bool (b != neg))
 | _, _ => none
theorem yk (C : bl) (s : ae) (T : TypeId) :
  (∀ op k a ct b, bW C s op T (.int k a) (.int ct b) = eO op k a ct b) ∧
  (∀ op a b, bW C s op T (.str a) (.str b) = ie op a b) ∧
  (∀ a b, bW C s .eql T (.bool a) (.bool b) = uq (C.T T).k (a == b)) ∧
  (∀ a b, bW C s .neq T (.bool a) (.bool b) = uq (C.T T).k (!(a == b))) ∧
  (∀ xs, bW C s .eql T (.slice xs) .bB = mK false (C.T T).k (gR s (.slice xs))) ∧
  (∀ xs, bW C s .neq T (.slice xs) .bB = mK true (C.T T).k (gR s (.slice xs))) ∧
  (bW C s .eql T .bB .bB = mK false (C.T T).k (gR s .bB)) ∧
  (bW C s .neq T .bB .bB = mK true (C.T T).k (gR s .bB)) ∧
  (∀ x q, bW C s .eql T (.h x q) .bB = mK false (C.T T).k (gR s (.h x q))) ∧
  (∀ x q, bW C s .neq T (.h x q) .bB = mK true (C.T T).k (gR s (.h x q))) ∧
  (∀ x q, bW C s .eql T (.h x q) .b7 = mL false (C.T T).k (gS s (.h x q))) ∧
  (∀ x q, bW C s .neq T (.h x q) .b7 = mL true (C.T T).k (gS s (.h x q))) ∧
  (∀ d, bW C s .eql T (.ref d) .b7 = mL false (C.T T).k (gS s (.ref d))) ∧
  (∀ d, bW C s .neq T (.ref d) .b7 = mL true (C.T T).k (gS s (.ref d))) ∧
  (bW C s .eql T .b7 .b7 = mL false (C.T T).k (gS s .b7)) ∧
  (bW C s .neq T .b7 .b7 = mL true (C.T T).k (gS s .b7)) := by
 refine ⟨?_, ?_, ?_, ?_, ?_, ?_, ?_, ?_, ?_, ?_, ?_, ?_, ?_, ?_, ?_, ?_⟩ <;> intros <;> first
  | rfl
  | (simp only [bW]
     generalize (C.T T).k = hx
     cases hx <;> first | rfl | (simp only [mK]; generalize gR s _ = v; cases v <;> rfl) | (simp only [mL]; generalize gS s _ = v; cases v <;> (try (rename_i b; cases b)) <;> rfl))
theorem yl (k : IntKind) (a b : Int) :
  eO .add k a k b = some (.int k (k.wrap (a + b))) ∧ eO .sub k a k b = some (.int k (k.wrap (a - b))) ∧ eO .mul k a k b = some (.int k (k.wrap (a * b))) ∧
  eO .eql k a k b = some (.bool (a == b)) ∧ eO .neq k a k b = some (.bool (a != b)) ∧ eO .lss k a k b = some (.bool (decide (a < b))) ∧ eO .leq k a k b = some (.bool (decide (a ≤ b))) ∧
  eO .gtr k a k b = some (.bool (decide (b < a))) ∧ eO .geq k a k b = some (.bool (decide (b ≤ a))) ∧
  eO .and k a k b = some (.int k (bitsOf .and k a b)) ∧ eO .or k a k b = some (.int k (bitsOf .or k a b)) ∧ eO .xor k a k b = some (.int k (bitsOf .xor k a b)) ∧ eO .andNot k a k b = some (.int k (bitsOf .andNot k a b)) := by
 simp [eO]
theorem Ep {k : IntKind} {a b : Int} (h : b ≠ 0) : eO .quo k a k b = some (.int k (k.wrap (a.tdiv b))) := by simp [eO, h]
theorem Er {k : IntKind} {a b : Int} (h : b ≠ 0) : eO .rem k a k b = some (.int k (a.tmod b)) := by simp [eO, h]
theorem Es {k ct : IntKind} {a b : Int} (h : ¬ b < 0) : eO .shl k a ct b = some (.int k (k.wrap (a * 2 ^ (min b.toNat k.bits)))) := by simp [eO, h]
theorem ym (a b : List UInt8) :
  ie .eql a b = some (.bool (a == b)) ∧ ie .neq a b = some (.bool !(a == b)) ∧ ie .lss a b = some (.bool (Op.bytesLess a b)) ∧
  ie .leq a b = some (.bool (Op.bytesLess a b || a == b)) ∧ ie .gtr a b = some (.bool !(Op.bytesLess a b || a == b)) ∧ ie .geq a b = some (.bool !(Op.bytesLess a b)) := by
 refine ⟨rfl, rfl, rfl, rfl, rfl, rfl⟩
theorem yn : (∀ b, un .not (.bool b) = some (.bool !b)) ∧ (un .not .cO = some .cO) ∧ (∀ k n, un .neg (.int k n) = some (.int k (k.wrap (0 - n)))) := ⟨fun _ => rfl, rfl, fun _ _ => rfl⟩
def ur : iI → Option UInt8 → Option j
 | .str, some c => some (.int .u8 c.toNat)
 | _, _ => none
theorem yo (C : bl) (T : TypeId) (l : List UInt8) (k : IntKind) (n : Int) : idx C T (.str l) (.int k n) = ur (C.T T).k (cJ l n) := by
 simp only [idx, cJ]
 generalize (C.T T).k = hx
 cases hx <;> first | rfl | (simp only [ur]; split <;> first | rfl | (cases l[n.toNat]? <;> rfl))
def uu (C : bl) : iI → Option j → Option j
 | .slice e, some d => if (C.T e).ok = true ∧ d.wd = (C.T e).sz then some (.ref d) else none
 | _, _ => none
theorem yp (C : bl) (s : ae) (T : TypeId) (xs : List j) (k : IntKind) (n : Int) : dm C s T (.slice xs) (.int k n) = uu C (C.T T).k (cJ xs n) := by
 simp only [dm, cJ]
 generalize (C.T T).k = hx
 cases hx <;> first | rfl | skip
 simp only [uu]
 by_cases bk : 0 ≤ n
 ·simp only [bk, true_and, if_true]
  split
  ·cases xs[n.toNat]? <;> simp [*]
  ·cases xs[n.toNat]? <;> simp [*]
 ·simp only [bk, false_and, if_false]
def p3 (C : bl) (y : Nat) (q : List Nat) (n : Int) : iI → Option j → Option j
 | .slice e, some (.aP sz xs) => if (cJ xs n).isSome = true ∧ (C.T e).ok = true ∧ sz = (C.T e).sz then some (.al y (q ++ [n.toNat])) else none
 | _, _ => none
theorem yq (C : bl) (s : ae) (T : TypeId) (y : Nat) (q : List Nat) (k : IntKind) (n : Int) : dm C s T (.h y q) (.int k n) = p3 C y q n (C.T T).k (j.sub q (s y)) := by
 simp only [dm]
 generalize (C.T T).k = hx
 cases hx <;> first | rfl | skip
 rename_i e
 cases R : j.sub q (s y) with
 | none => simp [p3]
 | some d =>
   cases d <;> first
    | (simp [p3]; done)
    | skip
   rename_i sz xs
   have aN : (cJ xs n).isSome = true ↔ 0 ≤ n ∧ n.toNat < xs.length := by
    unfold cJ; split <;> simp_all <;> omega
   simp only [p3, aN]
   by_cases bk : 0 ≤ n <;> by_cases U : (C.T e).ok = true <;> simp [bk, U]
def oe : iI → ae → Option (List UInt8) → Option (j × ae)
 | .str, s, some t => some (.str t, s)
 | _, _, _ => none
def og (C : bl) : iI → ae → List j → Option (List j) → Option (j × ae)
 | .slice e, s, xs, some t => if (C.T e).ok = true ∧ ∀ d ∈ xs, d.wd = (C.T e).sz then some (.slice t, s) else none
 | _, _, _, _ => none
theorem yr (C : bl) (s : ae) (T : TypeId) (l : List UInt8) :
  (∀ k a ct b, cU C s T (.str l) (some (.int k a)) (some (.int ct b)) = oe (C.T T).k s (fM l a b)) ∧
  (∀ ct b, cU C s T (.str l) none (some (.int ct b)) = oe (C.T T).k s (fM l 0 b)) ∧
  (∀ k a, cU C s T (.str l) (some (.int k a)) none = oe (C.T T).k s (fM l a l.length)) := by
 have e : ∀ (bV ax : Option j) (a b : Int), (dp 0 bV = if 0 ≤ a then some a.toNat else none) → (dp l.length ax = if 0 ≤ b then some b.toNat else none) → cU C s T (.str l) bV ax = oe (C.T T).k s (fM l a b) := by
  intro bV ax a b U aa
  simp only [cU]
  generalize (C.T T).k = hx
  cases hx <;> first | rfl | skip
  simp only [U, aa, fM]
  by_cases bs : 0 ≤ a <;> by_cases J : 0 ≤ b <;> simp only [bs, J, if_true, if_false, oe, true_and, false_and]
  ·by_cases af : a ≤ b ∧ b ≤ l.length
   ·rw [if_pos ⟨by omega, by omega⟩, if_pos af]
   ·rw [if_neg (fun h => af ⟨by omega, by omega⟩), if_neg af]
  ·rw [if_neg (by omega)]
 exact ⟨fun k a ct b => e _ _ a b rfl rfl, fun ct b => e _ _ 0 b rfl rfl, fun k a => e _ _ a l.length rfl (by simp [dp])⟩
theorem ys (C : bl) (s : ae) (T : TypeId) (xs : List j) :
  (∀ k a ct b, cU C s T (.slice xs) (some (.int k a)) (some (.int ct b)) = og C (C.T T).k s xs (fM xs a b)) ∧
  (∀ ct b, cU C s T (.slice xs) none (some (.int ct b)) = og C (C.T T).k s xs (fM xs 0 b)) ∧
  (∀ k a, cU C s T (.slice xs) (some (.int k a)) none = og C (C.T T).k s xs (fM xs a xs.length)) := by
 have e : ∀ (bV ax : Option j) (a b : Int), (dp 0 bV = if 0 ≤ a then some a.toNat else none) → (dp xs.length ax = if 0 ≤ b then some b.toNat else none) → cU C s T (.slice xs) bV ax = og C (C.T T).k s xs (fM xs a b) := by
  intro bV ax a b U aa
  simp only [cU]
  generalize (C.T T).k = hx
  cases hx <;> first | rfl | skip
  simp only [U, aa, fM]
  by_cases bs : 0 ≤ a <;> by_cases J : 0 ≤ b <;> simp only [bs, J, if_true, if_false, og, true_and, false_and]
  ·by_cases af : a ≤ b ∧ b ≤ xs.length
   ·rw [if_pos af]
    have U : a.toNat ≤ b.toNat := by omega
    have aa : b.toNat ≤ xs.length := by omega
    simp only [U, aa, true_and]
   ·rw [if_neg (fun h => af ⟨by omega, by omega⟩), if_neg af]
  ·rw [if_neg (by omega)]
 exact ⟨fun k a ct b => e _ _ a b rfl rfl, fun ct b => e _ _ 0 b rfl rfl, fun k a => e _ _ a xs.length rfl (by simp [dp])⟩
def p4 (q : List Nat) : Option j → Option j
 | some d => j.sub q d
 | none => none
theorem yt : (∀ d, j.sub [] d = some d) ∧ (∀ k q ad, j.sub (k :: q) (.agg ad) = p4 q ad[k]?) ∧ (∀ k q ad, j.sub (k :: q) (.tuple ad) = p4 q ad[k]?) ∧ (∀ k q sz xs, j.sub (k :: q) (.aP sz xs) = p4 q xs[k]?) ∧
  (∀ q d, j.sub (0 :: q) (.bn d) = j.sub q d) ∧ (∀ q d, p4 q (some d) = j.sub q d) ∧
  (∀ k q a b, j.sub (k :: q) (.int a b) = none) := by
 refine ⟨fun d => by simp [j.sub], ?_, ?_, ?_, fun q d => by simp [j.sub], fun _ _ => rfl, fun _ _ _ _ => by simp [j.sub]⟩
 ·intro k q ad; simp only [j.sub]; cases ad[k]? <;> rfl
 ·intro k q ad; simp only [j.sub]; cases ad[k]? <;> rfl
 ·intro k q sz ad; simp only [j.sub]; cases ad[k]? <;> rfl
def yu (k : Nat) (q : List Nat) (n : j) (ad : List j) : Option j → j
 | some d => .agg (ad.set k (j.put q n d))
 | none => .agg ad
def yv (k : Nat) (q : List Nat) (n : j) (ad : List j) : Option j → j
 | some d => .tuple (ad.set k (j.put q n d))
 | none => .tuple ad
def yw (k : Nat) (q : List Nat) (n : j) (sz : Nat) (xs : List j) : Option j → j
 | some d => .aP sz (xs.set k (j.put q n d))
 | none => .aP sz xs
theorem yx : (∀ n d, j.put [] n d = n) ∧ (∀ k q n ad, j.put (k :: q) n (.agg ad) = yu k q n ad ad[k]?) ∧ (∀ k q n ad, j.put (k :: q) n (.tuple ad) = yv k q n ad ad[k]?) ∧
  (∀ k q n sz xs, j.put (k :: q) n (.aP sz xs) = yw k q n sz xs xs[k]?) ∧ (∀ q n d, j.put (0 :: q) n (.bn d) = .bn (j.put q n d)) ∧
  (∀ k q n ad d, yu k q n ad (some d) = .agg (ad.set k (j.put q n d))) ∧ (∀ k q n ad d, yv k q n ad (some d) = .tuple (ad.set k (j.put q n d))) ∧
  (∀ k q n sz xs d, yw k q n sz xs (some d) = .aP sz (xs.set k (j.put q n d))) := by
 refine ⟨fun n d => by simp [j.put], ?_, ?_, ?_, fun q n d => by simp [j.put], fun _ _ _ _ _ => rfl, fun _ _ _ _ _ => rfl, fun _ _ _ _ _ _ => rfl⟩
 ·intro k q n ad; simp only [j.put]; cases ad[k]? <;> rfl
 ·intro k q n ad; simp only [j.put]; cases ad[k]? <;> rfl
 ·intro k q n sz ad; simp only [j.put]; cases ad[k]? <;> rfl
theorem uv : (∀ k n, j.wd (.int k n) = 1) ∧ (∀ b, j.wd (.bool b) = 1) ∧ (∀ x, j.wd (.str x) = 1) ∧ (∀ x, j.wd (.slice x) = 1) ∧ (∀ n x, j.wd (.aP n x) = 1) ∧ (∀ x, j.wd (.ref x) = 1) ∧ (∀ x, j.wd (.bn x) = 1) ∧
  j.wd .bB = 1 ∧ j.wd .b7 = 1 ∧ j.wd .hole = 1 ∧ j.wd .cO = 1 ∧ (∀ x y, j.wd (.h x y) = 1) ∧ (∀ x y, j.wd (.al x y) = 1) ∧ (∀ x y, j.wd (.fn x y) = 1) ∧ (∀ ad, j.wd (.agg ad) = j.cn ad) ∧ (∀ ad, j.wd (.tuple ad) = j.cn ad) ∧ j.cn [] = 0 ∧ (∀ d ds, j.cn (d :: ds) = d.wd + j.cn ds) := by
 simp [j.wd, j.cn]
theorem Et (C : bl) (s : ae) (A B : TypeId) (k ct : IntKind) (n : Int) (fb : (C.T A).ok = true) (dW : (C.T B).k = .int ct) : dg C s A B (.int k n) = some (.int ct (ct.wrap n)) := by
 simp only [dg, fb, dW, if_true]
theorem yy (m : Int) : fH (cX m) = .int .u8 (IntKind.u8.wrap m) := by
 have h : 0 ≤ IntKind.u8.wrap m ∧ IntKind.u8.wrap m < 256 := by rw [IntKind.wrap_u8]; omega
 simp only [fH, cX, UInt8.toNat_ofNat']
 congr 1
 omega
theorem uw (m : Int) : ((cX m).toNat : Int) = IntKind.u8.wrap m := by
 have h := yy m
 simpa [fH] using h
section
variable {C : bl} {l : List (Nat × j)} {Q : Exit → ae → Prop} {s : ae}
theorem mM {ros : List bf} {k : List Nat} (h : bu C (I l) ros none (fun _ s => Q .normal (I (fA k s)))) : b9 C (.aE ros (some k)) Q (I l) := ru (fun _ _ h => h) h
theorem Eu {a b : ao} (h : ∀ cF : Exit → ae → Prop, (∀ s, dA (b9 C b Q) s → cF .normal s) → (∀ s, Q .ret s → cF .ret s) → (∀ i s, Q (.exit i) s → cF (.exit i) s) → b9 C a cF s) : b9 C (.seq a b) Q s :=
 h _ (fun _ h => h) (fun _ h => h) (fun _ _ h => h)
theorem fK {ros : List bf} {k : List Nat} {b : ao} (h : bu C (I l) ros none (fun _ s => b9 C b Q (I (fA k s)))) : b9 C (.seq (.aE ros (some k)) b) Q (I l) := ru (fun _ _ h => .inl h) h
theorem jI {ros : List bf} {dX : List (List Nat)} {k : List Nat} {b : ao} (hlen : dX.length = ros.length) (h : bu C (I l) ros (some []) (fun acc s => h0 (nS dX) 0 [] (acc.getD []).reverse = true ∧ b9 C b Q (I (fA k s)))) :
  b9 C (.seq (.gr ros dX (some k)) b) Q (I l) := Ee (K := fun s => dA (b9 C b Q) (I (fA k s))) hlen (by
   have key : ∀ (os : List bf) (s : ae) (acc : Option (List c3)), bu C s os acc (fun acc s => h0 (nS dX) 0 [] (acc.getD []).reverse = true ∧ b9 C b Q (I (fA k s))) →
     bu C s os acc (fun acc s => h0 (nS dX) 0 [] (acc.getD []).reverse = true ∧ dA (b9 C b Q) (I (fA k s))) := by
    intro os
    induction os with
    | nil => intro s acc h; exact ⟨h.1, .inl h.2⟩
    | cons o os ih =>
      intro s acc h
      have mono : ∀ {s : ae} {aQ : du} {K bY : List Nat → j → ae → Prop}, (∀ a b c, K a b c → bY a b c) → jG C s aQ K → jG C s aQ bY := by
       intro s aQ K bY ai h
       cases aQ with
       | call f args =>
         obtain ⟨g, caps, ps, r, U, dE, aa, aw, aH, aX, bD, bI, c4⟩ := h
         exact ⟨g, caps, ps, r, U, dE, aa, aw, aH, aX, bD, bI, ai _ _ _ c4⟩
       | shr aQ => obtain ⟨av, s1, U, aa, aw, aH⟩ := h; exact ⟨av, s1, U, aa, aw, ai _ _ _ aH⟩
       | hV f args u x =>
         obtain ⟨ba, bg, g, caps, ps, r, U, dE, aa, aw, aH, aX, bD, bI, c4, eG, eB⟩ := h
         exact ⟨ba, bg, g, caps, ps, r, U, dE, aa, aw, aH, aX, bD, bI, c4, eG, ai _ _ _ eB⟩
       | hW f args us =>
         obtain ⟨bg, g, caps, ps, r, U, dE, aa, aw, aH, aX, bD, bI, c4, eG⟩ := h
         exact ⟨bg, g, caps, ps, r, U, dE, aa, aw, aH, aX, bD, bI, c4, ai _ _ _ eG⟩
       | _ => obtain ⟨av, s1, U, aa⟩ := h; exact ⟨av, s1, U, ai _ _ _ aa⟩
      simp only [bu, i5] at h ⊢
      split
      ·rename_i aN; rw [aN] at h; exact mono (fun _ _ _ => ih _ _) h
      ·rename_i t c9 aN
       rw [aN] at h
       simp only at h
       split
       ·rename_i LP R
        rw [R] at h
        simp only at h
        split
        ·rename_i J; rw [if_pos J] at h; exact mono (fun _ _ _ => ih _ _) h
        ·rename_i J; rw [if_neg J] at h; exact ih _ _ h
       ·rename_i R; rw [R] at h; exact ih _ _ h
       ·rename_i U aa
        split at h
        ·exact U _ (by assumption)
        ·exact aa (by assumption)
        ·exact h
   exact key _ _ _ h)
theorem mN {c : aq} {a b : ao} (af : au s c = .bool true) (h : b9 C a Q s) : b9 C (.cond c a b) Q s := by simp only [b9, af, if_true]; exact h
theorem p5 {c : aq} {a b : ao} (af : au s c = .bool false) (h : b9 C b Q s) : b9 C (.cond c a b) Q s := by simp only [b9, af]; exact h
theorem Ev {id : Nat} {b : ao} (h : ∀ cF : Exit → ae → Prop, (∀ s, Q .normal s → cF .normal s) → (∀ s, Q .ret s → cF .ret s) → (∀ s, Q .normal s → cF (.exit id) s) → (∀ i s, i ≠ id → Q (.exit i) s → cF (.exit i) s) → b9 C b cF s) : b9 C (.block id b) Q s :=
 h (nJ id Q) (fun _ h => h) (fun _ h => h) (fun s h => by simp only [nJ, if_true]; exact h) (fun i s ax h => by simp only [nJ, if_neg ax]; exact h)
theorem im {id : Nat} (h : Q (.exit id) s) : b9 C (.exit id) Q s := h
theorem cv (h : Q .ret s) : b9 C .ret Q s := h
theorem cW (h : Q .normal s) : b9 C .skip Q s := h
def gv (C : bl) (b : ao) (Q : Exit → ae → Prop) (s : ae) : Prop := ∀ Z : ae → Prop, (∀ ah, b9 C b (andThen (dA Z) Q) ah → Z ah) → Z s
theorem iq {b : ao} (h : dA (gv C b Q) s) : b9 C (.loop b) Q s := h
theorem Ew {b : ao} (h : ∀ cF : Exit → ae → Prop, (∀ s, dA (gv C b Q) s → cF .normal s) → (∀ s, Q .ret s → cF .ret s) → (∀ i s, Q (.exit i) s → cF (.exit i) s) → b9 C b cF s) : gv C b Q s := by
 intro Z nL
 refine nL s (xL b ?_ (h (andThen (dA (gv C b Q)) Q) (fun _ h => h) (fun _ h => h) (fun _ _ h => h)))
 intro e ah aS
 cases e with
 | normal => exact nK (fun s h => h Z nL) ah aS
 | _ => exact aS
theorem dZ {cZ : List (Nat × j)} (h : cZ.map (·.2) = cZ.map fun p => s p.1) : rp s cZ := by
 intro p al
 left
 induction cZ with
 | nil => cases al
 | cons a cZ ih =>
   simp only [List.map_cons, List.cons.injEq] at h
   rcases List.mem_cons.1 al with rfl | al
   ·exact h.1
   ·exact ih h.2 al
end
section
variable {C : bl} {l : List (Nat × j)} {Q : Exit → ae → Prop} {s : ae} {os ros : List bf} {K : Option (List c3) → ae → Prop} {dst : Option Nat}
theorem yz (l : List (Nat × j)) : (∀ n, au (I l) (.t n) = fm n (I l n)) ∧ (∀ av, au (I l) (.c av) = av) ∧ (∀ g, au (I l) (.f g) = .fn g []) := ⟨fun _ => rfl, fun _ => rfl, fun _ => rfl⟩
theorem yA : (∀ t, I [] t = .hole) ∧ (∀ u d (l : List (Nat × j)) t, I ((u, d) :: l) t = if t = u then d else I l t) := ⟨fun _ => rfl, fun _ _ _ _ => rfl⟩
theorem yB (s : ae) : fA [] s = [] ∧ (∀ t k, fA (t :: k) s = (t, s t) :: fA k s) := ⟨rfl, fun _ _ => rfl⟩
theorem yC (s : ae) : (∀ d, bM s (some d) = some (d, s)) ∧ (∀ s1, il (some s1) = some (.hole, s1)) ∧ e7 s [] = [] ∧ (∀ x xs, e7 s (x :: xs) = au s x :: e7 s xs) ∧ gj s [] = [] ∧ (∀ k x xs, gj s ((k, x) :: xs) = (k, au s x) :: gj s xs) ∧
  gX s none = none ∧ (∀ x, gX s (some x) = some (au s x)) ∧ (∀ b x y, lG s (.bool b) x y = some (if b = true then x else y, s)) :=
 ⟨fun _ => rfl, fun _ => rfl, rfl, fun _ _ => rfl, rfl, fun _ _ _ => rfl, rfl, fun _ => rfl, fun b _ _ => by cases b <;> rfl⟩
theorem yD (C : bl) : (∀ e d, uu C (.slice e) (some d) = if (C.T e).ok = true ∧ d.wd = (C.T e).sz then some (.ref d) else none) ∧
  (∀ y q n e sz xs, p3 C y q n (.slice e) (some (.aP sz xs)) = if (cJ xs n).isSome = true ∧ (C.T e).ok = true ∧ sz = (C.T e).sz then some (.al y (q ++ [n.toNat])) else none) ∧
  (∀ e s xs t, og C (.slice e) s xs (some t) = if (C.T e).ok = true ∧ ∀ d ∈ xs, d.wd = (C.T e).sz then some (.slice t, s) else none) :=
 ⟨fun _ _ => rfl, fun _ _ _ _ _ _ => rfl, fun _ _ _ _ => rfl⟩
theorem yE : (∀ b, uq .bool b = some (.bool b)) ∧ (∀ c, ur .str (some c) = some (.int .u8 c.toNat)) ∧ (∀ s t, oe .str s (some t) = some (.str t, s)) ∧ (∀ q d, p4 q (some d) = j.sub q d) :=
 ⟨fun _ => rfl, fun _ => rfl, fun _ _ => rfl, fun _ _ => rfl⟩
theorem yF (sz bytes : Nat) (z : j) : (∀ k, dB.ok ⟨.int k, sz, bytes, z⟩ = true) ∧ dB.ok ⟨.bool, sz, bytes, z⟩ = true ∧ dB.ok ⟨.str, sz, bytes, z⟩ = true ∧ (∀ e, dB.ok ⟨.ptr e, sz, bytes, z⟩ = true) ∧ (∀ e, dB.ok ⟨.slice e, sz, bytes, z⟩ = true) ∧ (∀ e, dB.ok ⟨.struct e, sz, bytes, z⟩ = true) ∧ dB.ok ⟨.fn, sz, bytes, z⟩ = true := by
 simp [dB.ok]
theorem yG (sz bytes : Nat) (z : j) : (∀ k, dB.flat ⟨.int k, sz, bytes, z⟩ = true) ∧ dB.flat ⟨.bool, sz, bytes, z⟩ = true ∧ dB.flat ⟨.str, sz, bytes, z⟩ = true ∧ (∀ e, dB.flat ⟨.ptr e, sz, bytes, z⟩ = true) ∧ (∀ e, dB.flat ⟨.slice e, sz, bytes, z⟩ = true) ∧ (∀ e, dB.flat ⟨.struct e, sz, bytes, z⟩ = false) ∧ dB.flat ⟨.fn, sz, bytes, z⟩ = true := by
 simp [dB.flat]
theorem p6 (c : UInt8) (k : IntKind) (ai : k ≠ .i8) : k.wrap (c.toNat : Int) = (c.toNat : Int) := by
 have := c.toNat_lt
 cases k <;> first | (exact (ai rfl).elim) | (simp [IntKind.wrap, IntKind.bits, IntKind.signed]; try omega)
theorem ux (c : UInt8) : IntKind.i64.wrap (c.toNat : Int) = (c.toNat : Int) ∧ IntKind.u64.wrap (c.toNat : Int) = (c.toNat : Int) ∧ IntKind.u8.wrap (c.toNat : Int) = (c.toNat : Int) ∧ IntKind.i32.wrap (c.toNat : Int) = (c.toNat : Int) ∧ IntKind.u32.wrap (c.toNat : Int) = (c.toNat : Int) :=
 ⟨p6 c _ (by simp), p6 c _ (by simp), p6 c _ (by simp), p6 c _ (by simp), p6 c _ (by simp)⟩
theorem eL {k : List Nat} {K : ae → Prop} (cZ : List (Nat × j)) (h : ∀ P : List (Nat × j) → Prop, P cZ → bu C (I l) ros none (fun _ s => P (fA k s))) (ai : K (I cZ)) : bu C (I l) ros none (fun _ s => K (I (fA k s))) :=
 h (fun l => K (I l)) ai
theorem jJ {k : List Nat} {h1 : List (List Nat)} {K : ae → Prop} (cZ : List (Nat × j)) (h : ∀ P : List (Nat × j) → Prop, P cZ → bu C (I l) ros (some []) (fun acc s => h0 h1 0 [] (acc.getD []).reverse = true ∧ P (fA k s))) (ai : K (I cZ)) :
  bu C (I l) ros (some []) (fun acc s => h0 h1 0 [] (acc.getD []).reverse = true ∧ K (I (fA k s))) :=
 h (fun l => K (I l)) ai
theorem b3.Ex (aJ : C.cP) {f : FuncId} {fn : Func} {c : Code} {c2 : ao} {fx : List Nat} {as outs : List j} {r : j} (bb : C.P.funcs[f]? = some fn) (J : fn.body = some c)
  (hH : (fn.name == "runtime.NumGoroutine") = false) (R : cz ⟨fn.ntmps, fx⟩ c = some c2.strip) (aL : as.length ≤ fn.ntmps)
  (h : ∀ Q : Exit → ae → Prop, (∀ s, dA (Ends C fx fn.results.toList r outs) s → Q .ret s) → (∀ s, dA (Ends C fx fn.results.toList r outs) s → Q .normal s) → b9 C c2 Q (I (num 0 as))) (al : c2.plain = true := by kernel_rfl) : b3 C f as r outs := by
 refine b3.of_wp aJ bb J hH R aL ?_ al
 rw [xT]
 exact h _ (fun s h => ⟨.inr rfl, h⟩) (fun s h => ⟨.inl rfl, h⟩)
def yH : List j → j
 | [d] => d
 | ds => .tuple ds
theorem Ey {fx : List Nat} {dJ : List ResultVar} {r : j} {outs : List j} (ds : List j) (U : dJ.map (kS C s) = ds.map some) (aa : r = yH ds) (aw : (dJ.map gF).Nodup)
  (aH : ∀ (i : Nat) (o : j), outs[i]? = some o → o = .hole ∨ (o = s i ∧ o.dQ = true ∧ i ∈ fx ∧ i ∉ dJ.map gF)) : Ends C fx dJ r outs s := ⟨ds, U, by subst aa; cases ds with | nil => rfl | cons a t => cases t <;> rfl, aw, aH⟩
theorem Ez {fx : List Nat} {dJ : List ResultVar} : ∀ (i : Nat) (o : j), ([] : List j)[i]? = some o → o = .hole ∨ (o = s i ∧ o.dQ = true ∧ i ∈ fx ∧ i ∉ dJ.map gF) := fun i o h => by simp at h
theorem yI : ∀ (as ds : List j), (hI as ds).filter (·.g) = []
 | [], _ => rfl
 | _ :: _, [] => rfl
 | a :: as, d :: ds => by simp only [hI, List.filter_cons]; exact yI as ds
theorem rC {f : aq} {args : List aq} {g : FuncId} {caps : List j} {K : List Nat → j → ae → Prop} (ds : List j) (r : j)
  (U : au (I l) f = .fn g caps) (dE : j.dd caps = true) (fz : views (I l) (e7 (I l) args ++ caps) = some ds)
  (aX : b3 C g ds r []) (bD : r.res = true) (bI : j.cE (e7 (I l) args ++ caps) = [] ∨ r.cN = true) (gV : K [] r (I l)) : jG C (I l) (.call f args) K := by
 obtain ⟨aC, aF, a6, bQ, bT, bc, a8⟩ := DL _ _ fz
 refine ⟨g, caps, hI (e7 (I l) args ++ caps) ds, r, U, dE, by rw [aC, rB], fun p al => (a6 p al).1, bQ, by rw [aF]; exact aX.outs bT.symm, bD, ?_, by rw [bc, a8, yI]; exact gV⟩
 intro aI
 refine ⟨?_, fun p al => by rw [(a6 p al).2.2.1]; rfl⟩
 rcases bI with bI | bI
 ·exfalso
  simp only [gD, List.any_eq_true] at aI
  obtain ⟨p, al, ej⟩ := aI
  have hm := (a6 p al).2.2.2
  have : p.a.R = [] := by
   have key : ∀ (as : List j) (a : j), a ∈ as → j.cE as = [] → a.R = [] := by
    intro as
    induction as with
    | nil => intro a h; cases h
    | cons b as ih =>
      intro a h he
      simp only [j.cE, List.append_eq_nil_iff] at he
      rcases List.mem_cons.1 h with rfl | h
      ·exact he.1
      ·exact ih a h he.2
   exact key _ _ hm bI
  rw [this] at ej; simp at ej
 ·exact bI
theorem hj {f : aq} {args : List aq} {g : FuncId} {caps : List j} {ds : List j} {r : j} (aX : b3 C g ds r [])
  (U : au (I l) f = .fn g caps) (dE : j.dd caps = true) (fz : views (I l) (e7 (I l) args ++ caps) = some ds)
  (bD : r.res = true) (bI : j.cE (e7 (I l) args ++ caps) = [] ∨ r.cN = true)
  (gV : bu C (fin (I l) dst r) os none K) : bu C (I l) (⟨dst, .call f args, none⟩ :: os) none K := by
 simp only [bu, i5, kU]
 exact rC ds r U dE fz aX bD bI gV
theorem kV {a : List c3} {f : aq} {args : List aq} {g : FuncId} {caps : List j} {ds : List j} {r : j} (aX : b3 C g ds r [])
  (U : au (I l) f = .fn g caps) (dE : j.dd caps = true) (fz : views (I l) (e7 (I l) args ++ caps) = some ds)
  (bD : r.res = true) (bI : j.cE (e7 (I l) args ++ caps) = [] ∨ r.cN = true)
  (gV : bu C (fin (I l) dst r) os (some (ff (I l) (use (I l) (.call f args)) dst [] r :: a)) K) : bu C (I l) (⟨dst, .call f args, none⟩ :: os) (some a) K := by
 simp only [bu, i5, kU]
 exact rC ds r U dE fz aX bD bI gV
theorem uy {t : Nat} {b : Bool} {f : aq} {args : List aq} {g : FuncId} {caps : List j} {ds : List j} {r : j} (aX : b3 C g ds r [])
  (U : au (I l) f = .fn g caps) (dE : j.dd caps = true) (fz : views (I l) (e7 (I l) args ++ caps) = some ds)
  (bD : r.res = true) (bI : j.cE (e7 (I l) args ++ caps) = [] ∨ r.cN = true)
  (gV : bu C (fin (I l) dst r) os none K) : bm C l dst (.call f args) t b os none K (.bool b) := by
 simp only [bm, if_true]
 exact rC ds r U dE fz aX bD bI gV
theorem uz {a : List c3} {t : Nat} {b : Bool} {f : aq} {args : List aq} {g : FuncId} {caps : List j} {ds : List j} {r : j} (aX : b3 C g ds r [])
  (U : au (I l) f = .fn g caps) (dE : j.dd caps = true) (fz : views (I l) (e7 (I l) args ++ caps) = some ds)
  (bD : r.res = true) (bI : j.cE (e7 (I l) args ++ caps) = [] ∨ r.cN = true)
  (gV : bu C (fin (I l) dst r) os (some (ff (I l) (t :: use (I l) (.call f args)) dst [] r :: a)) K) : bm C l dst (.call f args) t b os (some a) K (.bool b) := by
 simp only [bm, if_true]
 exact rC ds r U dE fz aX bD bI gV
theorem oh (s : ae) : views s [] = some [] ∧ (∀ d ds, views s (d :: ds) = (match view s d, views s ds with | some a, some b => some (a :: b) | _, _ => none)) ∧
  (∀ k n, view s (.int k n) = some (.int k n)) ∧ (∀ b, view s (.bool b) = some (.bool b)) ∧ (∀ x, view s (.str x) = some (.str x)) ∧ (∀ x, view s (.slice x) = some (.slice x)) ∧ (∀ x, view s (.ref x) = some (.ref x)) ∧
  view s .bB = some .bB ∧ view s .b7 = some .b7 ∧ (∀ ad, view s (.agg ad) = some (.agg ad)) ∧ (∀ f cap, view s (.fn f cap) = (views s cap).map (.fn f)) := by
 refine ⟨rfl, fun d ds => ?_, fun _ _ => rfl, fun _ => rfl, fun _ => rfl, fun _ => rfl, fun _ => rfl, rfl, rfl, fun _ => rfl, fun _ _ => by simp only [view]⟩
 simp only [views]; rfl
theorem rD {α : Type} {u e : α → j} (h : ∀ x, (u x).share = e x) (xs : List α) : j.shares (xs.map u) = xs.map e := by
 rw [j.l1]; simp [h]
end
theorem hK {C : bl} {A B : TypeId} {ct : IntKind} (fb : (C.T A).ok = true) (dW : (C.T B).k = .int ct) : ∀ s k n, dg C s A B (.int k n) = some (.int ct (ct.wrap n)) := fun s k n => Et C s A B k ct n fb dW
def yJ : Option j → Option j
 | some (.aP 1 xs) => (bytesOf xs).map .str
 | _ => none
theorem oi {C : bl} {A B e : TypeId} (fb : (C.T A).k = .slice e) (dW : (C.T B).k = .str) (he : (C.T e).k = .int .u8) :
  (∀ s xs, dg C s A B (.slice xs) = (bytesOf xs).map .str) ∧ (∀ s, dg C s A B .bB = some (.str [])) ∧ (∀ s x q, dg C s A B (.h x q) = yJ (j.sub q (s x))) := by
 have pC : (C.T A).ok = true := by simp [dB.ok, fb]
 refine ⟨fun s xs => ?_, fun s => ?_, fun s x q => ?_⟩
 ·simp only [dg, pC, fb, dW, he, if_true]
 ·simp only [dg, pC, fb, dW, he, if_true]
 ·simp only [dg, pC, fb, dW, he, if_true]
  rfl
theorem oj (xs : List j) : yJ (some (.aP 1 xs)) = (bytesOf xs).map .str := rfl
theorem yK (c : UInt8) (r : List j) : bytesOf (fH c :: r) = (bytesOf r).map (c :: ·) := by
 have := c.toNat_lt
 simp only [fH, bytesOf]
 rw [if_pos (by omega)]
 simp
theorem om : bytesOf [] = some [] ∧ (∀ l : List UInt8, bytesOf (l.map fH) = some l) ∧ (∀ (c : UInt8) r, bytesOf (.int .u8 (c.toNat : Int) :: r) = (bytesOf r).map (c :: ·)) ∧
  (∀ m r, bytesOf (.int .u8 (IntKind.u8.wrap m) :: r) = (bytesOf r).map (cX m :: ·)) :=
 ⟨rfl, Bn, fun c r => yK c r, fun m r => by rw [← yy]; exact yK _ r⟩
theorem oo {k : IntKind} {b : Int} (h : b ≠ 0) : ∀ a, eO .quo k a k b = some (.int k (k.wrap (a.tdiv b))) := fun _ => Ep h
theorem oq {k : IntKind} {b : Int} (h : b ≠ 0) : ∀ a, eO .rem k a k b = some (.int k (a.tmod b)) := fun _ => Er h
theorem all_cons {P : j → Prop} (d : j) (ds : List j) : (∀ x ∈ d :: ds, P x) = (P d ∧ ∀ x ∈ ds, P x) := by simp
def yL (a b : List UInt8) : Option Unit → Option j
 | some _ => some (.str (a ++ b))
 | none => none
theorem kW (a b : List UInt8) : ie .add a b = yL a b (fD (a.length + b.length)) := by
 simp only [ie, fD]; split <;> rfl
theorem kX (a b : List UInt8) (u : Unit) : yL a b (some u) = some (.str (a ++ b)) := rfl
theorem yM : (∀ l : List Nat, [] ++ l = l) ∧ (∀ a (l m : List Nat), (a :: l) ++ m = a :: (l ++ m)) := ⟨fun _ => rfl, fun _ _ _ => rfl⟩
def yN (s : ae) (x : Nat) (q : List Nat) : Option j → Option (j × ae)
 | some d => if d.plain = true then none else some (d, b4 (fa x s) x (j.put q d.bO (s x)))
 | none => none
theorem yO (s : ae) (x : Nat) (q : List Nat) : bE s (.h x q) = yN s x q (j.sub q (s x)) := by
 simp only [bE]; cases j.sub q (s x) <;> rfl
theorem yP (s : ae) : (∀ x q d, yN s x q (some d) = if d.plain = true then none else some (d, b4 (fa x s) x (j.put q d.bO (s x)))) ∧ (∀ k n, bE s (.int k n) = some (.int k n, s)) ∧ (∀ b, bE s (.bool b) = some (.bool b, s)) ∧ (∀ x, bE s (.str x) = some (.str x, s)) ∧
  (∀ x, bE s (.slice x) = some (.slice x, s)) ∧ (∀ x, bE s (.ref x) = some (.ref x, s)) ∧ (∀ x, bE s (.agg x) = some (.agg x, s)) ∧ bE s .bB = some (.bB, s) ∧ bE s .b7 = some (.b7, s) :=
 ⟨fun _ _ _ => rfl, fun _ _ => rfl, fun _ => rfl, fun _ => rfl, fun _ => rfl, fun _ => rfl, fun _ => rfl, rfl, rfl⟩
theorem yQ (l : List (Nat × j)) (t : Nat) (d : j) : b4 (I l) t d = I ((t, d) :: l) := gG l t d
theorem yR : (∀ n x, j.bO (.aP n x) = .hole) ∧ (∀ x, j.bO (.bn x) = .hole) ∧ (∀ ad, j.bO (.agg ad) = .agg (j.gM ad)) ∧ (∀ ad, j.bO (.tuple ad) = .tuple (j.gM ad)) ∧ j.gM [] = [] ∧ (∀ d ds, j.gM (d :: ds) = d.bO :: j.gM ds) ∧
  (∀ k n, j.bO (.int k n) = .int k n) ∧ (∀ b, j.bO (.bool b) = .bool b) ∧ (∀ x, j.bO (.str x) = .str x) ∧ (∀ x, j.bO (.slice x) = .slice x) ∧ (∀ x, j.bO (.ref x) = .ref x) ∧ j.bO .bB = .bB ∧ j.bO .b7 = .b7 ∧ j.bO .hole = .hole := by
 simp [j.bO, j.gM]
def mO : Option j → Option j
 | some d => (match d with | .tuple _ => none | .b_ _ => none | d => if d.plain = true then none else some d.share)
 | none => none
def mP : Option j → Option j
 | some d => (match d with | .tuple _ => none | d => some (.ref d.share))
 | none => none
theorem ot (s : ae) (x : Nat) (q : List Nat) : view s (.h x q) = mO (j.sub q (s x)) ∧ view s (.al x q) = (if j.cY q (s x) = true then mP (j.sub q (s x)) else none) := by
 constructor
 ·simp only [view]; rfl
 ·simp only [view]; rfl
theorem ou : (∀ n xs, mO (some (.aP n xs)) = some (.slice (j.shares xs))) ∧ (∀ d, mO (some (.bn d)) = some (.ref d.share)) ∧ (∀ ad, mO (some (.agg ad)) = if j.dd ad = true then none else some (.agg (j.shares ad))) ∧
  (∀ ad, mP (some (.agg ad)) = some (.ref (.agg (j.shares ad)))) ∧ (∀ k n, mP (some (.int k n)) = some (.ref (.int k n))) ∧ (∀ x, mP (some (.str x)) = some (.ref (.str x))) :=
 ⟨fun _ _ => by simp [mO, j.plain, j.share], fun _ => by simp [mO, j.plain, j.share], fun ad => by cases h : j.dd ad <;> simp [mO, j.plain, j.share, h], fun _ => by simp [mP, j.share], fun _ _ => by simp [mP, j.share], fun _ => by simp [mP, j.share]⟩
theorem kY : (∀ n xs, j.share (.aP n xs) = .slice (j.shares xs)) ∧ (∀ d, j.share (.bn d) = .ref d.share) ∧ (∀ xs, j.share (.slice xs) = .slice (j.shares xs)) ∧ (∀ d, j.share (.ref d) = .ref d.share) ∧ (∀ ad, j.share (.agg ad) = .agg (j.shares ad)) ∧ (∀ ad, j.share (.tuple ad) = .tuple (j.shares ad)) ∧
  (∀ k n, j.share (.int k n) = .int k n) ∧ (∀ b, j.share (.bool b) = .bool b) ∧ (∀ x, j.share (.str x) = .str x) ∧ j.share .bB = .bB ∧ j.share .b7 = .b7 ∧ j.shares [] = [] ∧ (∀ d ds, j.shares (d :: ds) = d.share :: j.shares ds) := by
 simp [j.share, j.shares]
theorem uA : (∀ k n, j.owner (.int k n) = none) ∧ (∀ b, j.owner (.bool b) = none) ∧ (∀ x, j.owner (.str x) = none) ∧ (∀ x, j.owner (.slice x) = none) ∧ (∀ x, j.owner (.ref x) = none) ∧ (∀ x, j.owner (.agg x) = none) ∧ j.owner .b7 = none ∧ j.owner .bB = none ∧ (∀ x q, j.owner (.h x q) = some x) :=
 ⟨fun _ _ => rfl, fun _ => rfl, fun _ => rfl, fun _ => rfl, fun _ => rfl, fun _ => rfl, rfl, rfl, fun _ _ => rfl⟩
end Go.b1
