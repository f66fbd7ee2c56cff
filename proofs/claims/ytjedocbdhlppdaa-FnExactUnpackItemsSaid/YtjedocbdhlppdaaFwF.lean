/- Part of a proof that a law returns true for every input. No condition. -/
import Derived.Test.YtjedocbdhlppdaaFwE
import Derived.Orders
import Derived.KernelRfl
import Derived.Test.YtjedocbdhlppdaaFwA
namespace Go.b7
section
variable {C : bp} {w0 w : World} {F0 X : Nat → Prop} {n : Fr} {ρ : Nat → Value} {s s1 : ad} {a : Act} {av : j} {Q : Exit → Act → World → Prop}
def bm.un (o : bm) : bm := ⟨o.dst, o.aV.base, o.guard⟩
theorem uM {ops : Array Oper} : ∀ {os : List Oper} {rs : List bm}, kP n ops os = some rs → os.length = rs.length ∧ ∀ (i : Nat) (o : Oper), os[i]? = some o → ∃ r, rs[i]? = some r ∧ kO n ops o = some r := by
 intro os
 induction os with
 | nil => intro rs h; simp only [kP, Option.some.injEq] at h; subst h; exact ⟨rfl, fun i o h => by simp at h⟩
 | cons o os ih =>
   intro rs h
   simp only [kP] at h
   split at h
   ·rename_i r Oo U aa
    simp only [Option.some.injEq] at h; subst h
    obtain ⟨bn, bs⟩ := ih aa
    refine ⟨by simp [bn], fun i i9 bq => ?_⟩
    cases i with
    | zero => simp at bq; subst bq; exact ⟨r, rfl, U⟩
    | succ i => simpa using bs i i9 (by simpa using bq)
   ·cases h
theorem uN {o : Oper} {y : Nat → Option Bool} (h : o.guard = none) : Region.wanted o y = true := by simp [Region.wanted, h]
theorem Ei (h : Rel w0 F0 X n ρ s a w) {ops : Array Oper} {ay t : Nat} (bP : (ops[ay]?).bind (·.dst) = some t) :
  (∀ b, s t = .bool b → yielded ops a.tmps ay = some b) ∧ (s t = .tuple [] → yielded ops a.tmps ay = none) := by
 obtain ⟨ab, R, bo, F, S, aD⟩ := h
 have fL := aD.cl t
 refine ⟨fun b J => ?_, fun J => ?_⟩
 ·rw [J] at fL
  have aC := m5 fL
  simp only [yielded, bP, Option.bind_some]
  rw [Array.getD_eq_getD_getElem?] at aC
  cases aT : a.tmps[t]? with
  | none => rw [aT] at aC; simp [undef] at aC
  | some v => rw [aT] at aC; simp at aC; subst aC; rfl
 ·rw [J] at fL
  obtain ⟨⟨arr, U, aa⟩, _⟩ := (ar.bE (d := .tuple []) rfl).1 fL
  simp only [yielded, bP, Option.bind_some]
  rw [Array.getD_eq_getD_getElem?] at U
  cases aT : a.tmps[t]? with
  | none => rfl
  | some v => rw [aT] at U; simp at U; subst U; rfl
theorem uO (aM : C.c3) {ops : Array Oper} {ros : List bm} {l2 : List Nat} {K : ad → Prop} (aO : ∀ aj bK ao, K aj → Rel w0 F0 X n ρ aj bK ao → wpOps C.P ops Q l2 bK ao) :
  ∀ (l : List Nat), (∀ i ∈ l, (ops[i]? = none → ros[i]? = none) ∧ ∀ o, ops[i]? = some o → ∃ r, ros[i]? = some r ∧ kO n ops o = some r.un) →
  ∀ (s : ad) (a : Act) (w : World), gn C ros s l K → Rel w0 F0 X n ρ s a w → wpOps C.P ops Q (l ++ l2) a w := by
 intro l
 induction l with
 | nil => intro _ s a w h aD; exact aO s a w h aD
 | cons i l ih =>
   intro mf s a w h aD
   replace ih := ih fun i ax => mf i (List.mem_cons_of_mem _ ax)
   rw [List.cons_append]
   simp only [wpOps]
   cases bq : ops[i]? with
   | none =>
     simp only [gn, (mf i (by simp)).1 bq] at h
     exact ih s a w h aD
   | some o =>
     obtain ⟨r, U, aa⟩ := (mf i (by simp)).2 o bq
     simp only [gn, U] at h
     show (if Region.wanted o (yielded ops a.tmps) = true then o.wp C.P a w (wpOps C.P ops Q (l ++ l2)) Q ∨ (o.asks C.P a w ∧ LetsOut Q) else wpOps C.P ops Q (l ++ l2) (a.put o.dst undef) w)
     simp only [kO] at aa
     split at aa
     ·rename_i r6
      split at aa
      ·rename_i g aT
       obtain ⟨rd, aV, rg⟩ := r
       simp only [bm.un, Option.some.injEq, bm.mk.injEq] at aa
       obtain ⟨rfl, bD, rfl⟩ := aa
       simp only [hM] at h
       have run : ∀ (b6 : ad → Prop), (∀ aj, b6 aj → gn C ros aj l K) → jN C s aV (fun av s1 => b6 (fin s1 o.dst av)) → o.wp C.P a w (wpOps C.P ops Q (l ++ l2)) Q :=
        fun b6 hv hw => Ef aM aD bD r6 hw (fun aj bK ao ah cO => ih aj bK ao (hv aj ah) cO)
       cases ox : o.guard with
       | none =>
         rw [ox] at aT
         simp only [qj, Option.some.injEq] at aT; subst aT
         simp only at h
         rw [if_pos (uN ox)]
         exact .inl (run _ (fun _ h => h) h)
       | some uP =>
         obtain ⟨ay, b⟩ := uP
         rw [ox] at aT
         simp only [qj] at aT
         split at aT
         ·rename_i t aG
          simp only [Option.some.injEq] at aT; subst aT
          simp only at h
          obtain ⟨ug, uh⟩ := Ei aD aG
          have yc : ∀ (b6 : gn C ros (fin s o.dst (.tuple [])) l K), wpOps C.P ops Q (l ++ l2) (a.put o.dst undef) w := fun b6 => ih _ _ _ b6 (Rel.skip aD r6)
          split at h
          ·rename_i dk R
           have a8 := ug dk R
           split at h
           ·rename_i J; subst J
            rw [if_pos (by simp [Region.wanted, ox, a8])]
            exact .inl (run _ (fun _ h => h) h)
           ·rename_i J
            rw [if_neg (by simp [Region.wanted, ox, a8, J])]
            exact yc h
          ·rename_i R
           have a8 := uh R
           rw [if_neg (by simp [Region.wanted, ox, a8])]
           exact yc h
          ·exact h.elim
         ·cases aT
      ·cases aa
     ·cases aa
theorem yd (aM : C.c3) {ops : Array Oper} {ros : List bm} (mg : kP n ops ops.toList = some (ros.map bm.un)) {K : ad → Prop} (aO : ∀ aj bK ao, K aj → Rel w0 F0 X n ρ aj bK ao → Q .normal bK ao) :
  ∀ (l : List Nat) (s : ad) (a : Act) (w : World), gn C ros s l K → Rel w0 F0 X n ρ s a w → wpOps C.P ops Q l a w := by
 obtain ⟨hl, mf⟩ := uM mg
 intro l s a w h aD
 have := uO (Q := Q) aM (ros := ros) (ops := ops) (l2 := []) (K := K) (n := n) (ρ := ρ) (w0 := w0) (F0 := F0) (X := X) (fun aj bK ao ah cO => aO aj bK ao ah cO) l (fun i _ => ⟨fun bq => by
   rw [List.getElem?_eq_none_iff, ← List.length_map (f := bm.un), ← hl]
   have := Array.getElem?_eq_none_iff.1 bq
   simpa using this, fun o bq => by
   obtain ⟨bt, eK, aa⟩ := mf i o (by simpa using bq)
   obtain ⟨r, U, rfl⟩ : ∃ r, ros[i]? = some r ∧ r.un = bt := by simpa using eK
   exact ⟨r, U, aa⟩⟩) s a w h aD
 rwa [List.append_nil] at this
theorem Rel.drawn (h : Rel w0 F0 X n ρ s a w) (k : Nat) : Rel w0 F0 X n ρ s a { w with drawn := k } := by
 obtain ⟨U, aa, bo, F, S, au⟩ := h
 exact ⟨U, aa, bo, F, S, au.grow (fun _ _ => rfl) (Nat.le_refl _) rfl rfl rfl⟩
theorem Ej (aM : C.c3) {id : Nat} {ops : Array Oper} {ros : List bm} (mg : kP n ops ops.toList = some (ros.map bm.un)) {K : ad → Prop} (aO : ∀ aj bK ao, K aj → Rel w0 F0 X n ρ aj bK ao → Q .normal bK ao)
  (h : ht C s ros K) (aD : Rel w0 F0 X n ρ s a w) : (Code.region id ops false).wp C.P Q a w := by
 refine wp_region (yd aM mg aO _ s a w ?_ aD)
 have := DY C K ros [] s h
 have hl := (uM mg).1
 simp only [List.nil_append, List.length_nil, Nat.add_zero, List.map_id'] at this
 rw [List.length_map] at hl
 rw [← hl] at this
 simpa using this
end
def uQ (kj : List (List Nat)) (l : List Nat) : Prop :=
 l.Nodup ∧ (∀ i, i ∈ l ↔ i < kj.length) ∧ ∀ u i v, l = u ++ i :: v → ∀ e ∈ (kj[i]?).getD [], e ∈ u
def jO (ops : Array Oper) : List (List Nat) := ops.toList.map fun o => (o.after.toList.filter fun e => Region.binds .any e).map (·.on)
def qn (kj : List (List Nat)) : Bool := kj.zipIdx.all fun p => p.1.all fun e => decide (e < p.2)
theorem Ek {kj : List (List Nat)} (h : qn kj = true) {i : Nat} {l : List Nat} (ax : kj[i]? = some l) : ∀ e ∈ l, e < i := by
 intro e he
 simp only [qn, List.all_eq_true] at h
 have := h (l, i) (by rw [List.mem_zipIdx_iff_getElem?]; exact ax) e he
 simpa using this
theorem El {ops : Array Oper} (J : qn (jO ops) = true) : ∀ (fuel t : Nat) (dM : Array Bool), dM.size = ops.size → ((List.range ops.size).filter fun i => !dM.getD i true).length ≤ fuel →
  (Region.linearise.go .any ops fuel t dM []).Nodup ∧ (∀ i, i ∈ Region.linearise.go .any ops fuel t dM [] ↔ (i < ops.size ∧ dM.getD i true = false)) ∧
   ∀ u i v, Region.linearise.go .any ops fuel t dM [] = u ++ i :: v → ∀ e ∈ ((jO ops)[i]?).getD [], dM.getD e false = true ∨ e ∈ u := by
 intro fuel
 induction fuel with
 | zero =>
   intro t dM R hl
   have p4 : ((List.range ops.size).filter fun i => !dM.getD i true) = [] := List.length_eq_zero_iff.1 (Nat.le_zero.1 hl)
   refine ⟨by simp [Region.linearise.go], fun i => ?_, fun u i v h => by simp [Region.linearise.go] at h⟩
   simp only [Region.linearise.go, List.reverse_nil, List.not_mem_nil, false_iff, not_and]
   intro ax bo
   have : i ∈ ((List.range ops.size).filter fun i => !dM.getD i true) := List.mem_filter.2 ⟨List.mem_range.2 ax, by rw [bo]; rfl⟩
   rw [p4] at this; cases this
 | succ fuel ih =>
   intro t dM R hl
   have ye : ∀ i, i ∈ Region.ready .any ops dM ↔ (i < ops.size ∧ dM.getD i true = false ∧ ∀ e ∈ ((jO ops)[i]?).getD [], dM.getD e false = true) := by
    intro i
    simp only [Region.ready, List.mem_filter, List.mem_range, Bool.and_eq_true, Bool.not_eq_true']
    constructor
    ·rintro ⟨U, aa, au⟩
     refine ⟨U, aa, ?_⟩
     rw [Array.getElem?_eq_getElem U] at au
     simp only [Option.map_some, Option.getD_some, Array.all_eq_true_iff_forall_mem] at au
     simp only [jO, List.getElem?_map, Array.getElem?_toList, Array.getElem?_eq_getElem U, Option.map_some, Option.getD_some, List.mem_map, List.mem_filter]
     rintro e ⟨x, ⟨an, uR⟩, rfl⟩
     have := au x (by simpa using an)
     simpa [uR] using this
    ·rintro ⟨U, aa, au⟩
     refine ⟨U, aa, ?_⟩
     rw [Array.getElem?_eq_getElem U]
     simp only [Option.map_some, Option.getD_some, Array.all_eq_true_iff_forall_mem]
     simp only [jO, List.getElem?_map, Array.getElem?_toList, Array.getElem?_eq_getElem U, Option.map_some, Option.getD_some, List.mem_map, List.mem_filter] at au
     intro x an
     cases uR : Region.binds .any x with
     | false => simp
     | true => simpa using au x.on ⟨x, ⟨by simpa using an, uR⟩, rfl⟩
   have hex : (∃ i, i < ops.size ∧ dM.getD i true = false) → Region.ready .any ops dM ≠ [] := by
    rintro ⟨i, U, aa⟩
    have : ∃ i, (i < ops.size ∧ dM.getD i true = false) ∧ ∀ ay, ay < i → ¬ (ay < ops.size ∧ dM.getD ay true = false) := by
     induction i using Nat.strongRecOn with
     | _ i Em =>
       by_cases bP : ∃ ay, ay < i ∧ (ay < ops.size ∧ dM.getD ay true = false)
       ·obtain ⟨ay, En, Eo, Ep⟩ := bP
        exact Em ay En Eo Ep
       ·exact ⟨i, ⟨U, aa⟩, fun ay Er ag => bP ⟨ay, Er, ag⟩⟩
    obtain ⟨k, ⟨bn, bs⟩, cT⟩ := this
    have : k ∈ Region.ready .any ops dM := (ye k).2 ⟨bn, bs, fun e he => by
     cases bB : (jO ops)[k]? with
     | none => rw [bB] at he; simp at he
     | some l =>
       rw [bB] at he
       have cK := Ek J bB e he
       have := cT e cK
       rw [not_and] at this
       have := this (by omega)
       have uS : e < dM.size := by omega
       simp only [Array.getD_eq_getD_getElem?, Array.getElem?_eq_getElem uS, Option.getD_some] at this ⊢
       simpa using this⟩
    intro e; rw [e] at this; cases this
   have yf : Region.linearise.go .any ops (fuel + 1) t dM [] = (match (Region.ready .any ops dM)[t % (Region.ready .any ops dM).length]? with
    | some i => Region.linearise.go .any ops fuel (t / (Region.ready .any ops dM).length) (dM.setIfInBounds i true) [i]
    | none => []) := rfl
   cases qo : (Region.ready .any ops dM)[t % (Region.ready .any ops dM).length]? with
   | none =>
     have p4 : Region.ready .any ops dM = [] := by
      cases aD : Region.ready .any ops dM with
      | nil => rfl
      | cons a l =>
        rw [aD] at qo
        have := List.getElem?_eq_none_iff.1 qo
        have aa := Nat.mod_lt t (show 0 < (a :: l).length by simp)
        omega
     rw [yf, qo]
     refine ⟨by simp, fun i => ?_, fun u i v h => by simp at h⟩
     simp only [List.not_mem_nil, false_iff]
     intro ax
     exact hex ⟨i, ax⟩ p4
   | some i =>
     have ax := (ye i).1 (List.mem_of_getElem? qo)
     obtain ⟨uT, yg, Es⟩ := ax
     rw [yf, qo]
     simp only
     rw [linearise_go_acc]
     simp only [List.reverse_singleton, List.singleton_append]
     have lX : ∀ ay d, (dM.setIfInBounds i true).getD ay d = if ay = i then true else dM.getD ay d := by
      intro ay d
      split
      ·rename_i e; subst e
       simp [Array.getD_eq_getD_getElem?, Array.getElem?_setIfInBounds_self_of_lt (show ay < dM.size by omega)]
      ·rename_i e
       simp [Array.getD_eq_getD_getElem?, Array.getElem?_setIfInBounds_ne (fun h => e h.symm)]
     obtain ⟨g1, g2, g3⟩ := ih (t / (Region.ready .any ops dM).length) (dM.setIfInBounds i true) (by simpa using R) (by
      have c7 : ((List.range ops.size).filter fun ay => !(dM.setIfInBounds i true).getD ay true) = ((List.range ops.size).filter fun i => !dM.getD i true).filter fun ay => decide (ay ≠ i) := by
       rw [List.filter_filter]
       apply List.filter_congr
       intro ay _
       rw [lX]
       by_cases e : ay = i <;> simp [e]
      rw [c7]
      have cK : (((List.range ops.size).filter fun i => !dM.getD i true).filter fun ay => decide (ay ≠ i)).length < ((List.range ops.size).filter fun i => !dM.getD i true).length := by
       rw [List.length_filter_lt_length_iff_exists]
       exact ⟨i, List.mem_filter.2 ⟨List.mem_range.2 uT, by rw [yg]; rfl⟩, by simp⟩
      omega)
     refine ⟨?_, fun ay => ?_, ?_⟩
     ·rw [List.nodup_cons]
      refine ⟨fun hm => ?_, g1⟩
      have := ((g2 i).1 hm).2
      rw [lX, if_pos rfl] at this; cases this
     ·rw [List.mem_cons, g2, lX]
      by_cases e : ay = i
      ·subst e; simp [uT, yg]
      ·simp [e]
     ·intro u ay v h e he
      cases u with
      | nil =>
        simp only [List.nil_append, List.cons.injEq] at h
        obtain ⟨rfl, rfl⟩ := h
        exact .inl (Es e he)
      | cons uU u =>
        simp only [List.cons_append, List.cons.injEq] at h
        obtain ⟨rfl, h⟩ := h
        rcases g3 u ay v h e he with aX | aX
        ·rw [lX] at aX
         split at aX
         ·rename_i eE; subst eE; exact .inr (by simp)
         ·exact .inl aX
        ·exact .inr (by simp [aX])
theorem Et {ops : Array Oper} (J : qn (jO ops) = true) (t : Nat) : uQ (jO ops) (Region.linearise .any ops t) := by
 have yh : ∀ i d, i < ops.size → (Array.replicate ops.size false).getD i d = false := by
  intro i d ax
  simp [Array.getD_eq_getD_getElem?, ax]
 obtain ⟨g1, g2, g3⟩ := El J ops.size t (Array.replicate ops.size false) (by simp) (by
  have := List.length_filter_le (fun i => !(Array.replicate ops.size false).getD i true) (List.range ops.size)
  simpa using this)
 have hlen : (jO ops).length = ops.size := by simp [jO]
 refine ⟨g1, fun i => ?_, fun u i v h e he => ?_⟩
 ·rw [hlen]
  rw [show Region.linearise .any ops t = Region.linearise.go .any ops ops.size t (Array.replicate ops.size false) [] from rfl, g2]
  exact ⟨fun h => h.1, fun h => ⟨h, yh i true h⟩⟩
 ·rcases g3 u i v h e he with aX | aX
  ·exfalso
   by_cases yi : e < ops.size
   ·rw [yh e false yi] at aX; cases aX
   ·simp [Array.getD_eq_getD_getElem?, yi] at aX
  ·exact aX
def I : List (Nat × j) → ad
 | [], _ => .hole
 | (u, d) :: l, t => if t = u then d else I l t
mutual
inductive dh : j → j → Prop
 | refl (d : j) : dh d d
 | iP (sz : Nat) : dh .bu (.aJ sz [])
 | oy : dh .bu (.slice [])
 | any (b : Bool) : dh (.bool b) .c1
 | share (d : j) : d.tree = true → (∀ vs, d ≠ .tuple vs) → (∀ o, d ≠ .ch o) → dh d d.share
 | agg {ds es : List j} : gG ds es → dh (.agg ds) (.agg es)
 | bb {d e : j} : dh d e → dh (.bb d) (.bb e)
 | aJ {sz : Nat} {ds es : List j} : gG ds es → dh (.aJ sz ds) (.aJ sz es)
 | tuple {ds es : List j} : gG ds es → dh (.tuple ds) (.tuple es)
 | ref {d e : j} : dh d e → dh (.ref d) (.ref e)
 | trans {d e f : j} : dh d e → dh e f → dh d f
inductive gG : List j → List j → Prop
 | nil : gG [] []
 | cons {d e : j} {ds es : List j} : dh d e → gG ds es → gG (d :: ds) (e :: es)
end
mutual
theorem dh.wd : ∀ {d e : j}, dh d e → e.wd = d.wd
 | _, _, .refl _ => rfl
 | _, _, .iP _ => rfl
 | _, _, .oy => rfl
 | _, _, .any _ => rfl
 | _, _, .share d _ _ _ => j.ru d
 | _, _, .agg h => by simp only [j.wd]; exact gG.wd h
 | _, _, .bb _ => rfl
 | _, _, .aJ _ => rfl
 | _, _, .tuple h => by simp only [j.wd]; exact gG.wd h
 | _, _, .ref _ => rfl
 | _, _, .trans h k => (dh.wd k).trans (dh.wd h)
theorem gG.wd : ∀ {ds es : List j}, gG ds es → j.cz es = j.cz ds
 | _, _, .nil => rfl
 | _, _, .cons h R => by simp only [j.cz]; rw [dh.wd h, gG.wd R]
end
theorem gG.len {ds es : List j} (h : gG ds es) : es.length = ds.length := by
 induction ds generalizing es with
 | nil => cases h; rfl
 | cons d ds ih => cases h with | cons h R => simp [ih R]
theorem gG.all {sz : Nat} {ds es : List j} (h : gG ds es) (ab : ∀ d ∈ ds, d.wd = sz) : ∀ d ∈ es, d.wd = sz := by
 induction ds generalizing es with
 | nil => cases h; intro d ab; cases ab
 | cons d ds ih =>
   cases h with
   | cons h R =>
     intro x an
     rcases List.mem_cons.1 an with rfl | an
     ·rw [h.wd]; exact ab d (by simp)
     ·exact ih R (fun d hm => ab d (by simp [hm])) x an
section
variable {w0 w : World} {F0 X F : Nat → Prop} {S : Nat → Nat → Prop} {s aj : ad} {al : Nat → Value}
def Eu (w : World) (F : Nat → Prop) (_d e : j) (cs : List Value) (S : Nat → Prop) : Prop :=
 ∃ e7 e8 : Nat → Prop, (∀ b, e7 b → S b) ∧ (∀ b, e8 b → S b) ∧ (∀ b, e8 b → ¬ e7 b) ∧ ∀ aY, (∀ b, F b ∨ e7 b → aY b) → ai w aY e cs e8
mutual
theorem ai.kk : ∀ {d e : j}, dh d e → ∀ {F : Nat → Prop} {cs : List Value} {S : Nat → Prop}, ai w F d cs S → Eu w F d e cs S
 | _, _, .refl _, F, cs, S, h => ⟨fun _ => False, S, fun _ h => h.elim, fun _ h => h, fun _ _ h => h, fun aY aN => ai.mono (fun b J => aN b (.inl J)) _ _ _ _ (fun _ h => h) h⟩
 | .bu, _, .iP sz, F, cs, S, h => ⟨fun _ => False, S, fun _ h => h.elim, fun _ h => h, fun _ _ h => h, fun aY aN => by simp only [ai] at h ⊢; exact .inl ⟨trivial, _, h⟩⟩
 | .bu, _, .oy, F, cs, S, h => ⟨fun _ => False, S, fun _ h => h.elim, fun _ h => h, fun _ _ h => h, fun aY aN => by simp only [ai] at h ⊢; exact .inl ⟨trivial, none, 0, h, Nat.zero_le _, fun _ => rfl⟩⟩
 | .bool _, _, .any b, F, cs, S, h => ⟨fun _ => False, S, fun _ h => h.elim, fun _ h => h, fun _ _ h => h, fun aY aN => by simp only [ai] at h ⊢; exact ⟨b, h⟩⟩
 | _, _, .share d _ _ _, F, cs, S, h => ⟨S, fun _ => False, fun _ h => h, fun _ h => h.elim, fun _ h => h.elim, fun aY aN => ai.shared (fun b J => aN b (.inl J)) d cs S (fun b J => aN b (.inr J)) h⟩
 | _, _, .agg fR, F, cs, S, h => by
   rw [ai] at h
   obtain ⟨e7, e8, U, aa, au, aK⟩ := aH.kk fR h
   exact ⟨e7, e8, U, aa, au, fun aY aN => by rw [ai]; exact aK aY aN⟩
 | _, _, .bb ab, F, cs, S, h => by
   rw [ai] at h
   obtain ⟨b, cur, ty, fr, az, bn, bs, cT, cm, c8, c4, fq⟩ := h
   obtain ⟨e7, e8, U, aa, au, aK⟩ := ai.kk ab c8
   refine ⟨e7, fun c => c = b ∨ e8 c, fun c ag => c4 c (U c ag), ?_, ?_, fun aY aN => ?_⟩
   ·rintro c (rfl | ag)
    ·exact bs
    ·exact c4 c (aa c ag)
   ·rintro c (rfl | ag) bo
    ·exact fq (U _ bo)
    ·exact au c ag bo
   ·rw [ai]
    exact ⟨b, cur, ty, fr, e8, bn, .inl rfl, cT, cm, aK aY aN, fun c ag => .inr ag, fun ag => fq (aa _ ag)⟩
 | .aJ sz ds, .aJ _ es, .aJ fR, F, cs, S, h => by
   rw [ai] at h
   have hl := fR.len
   rcases h with ⟨U, aa⟩ | ⟨b, cap, cur, ty, fr, az, bn, bs, cT, cm, c8, c4, fq, hr, h8, lZ, yj⟩
   ·refine ⟨fun _ => False, S, fun _ h => h.elim, fun _ h => h, fun _ _ h => h, fun aY _ => ?_⟩
    rw [ai]
    subst U
    exact .inl ⟨List.length_eq_zero_iff.1 (by simpa using hl), aa⟩
   ·obtain ⟨e7, e8, U, aa, au, aK⟩ := aH.kk fR h8
    refine ⟨e7, fun c => c = b ∨ e8 c, fun c ag => lZ c (U c ag), ?_, ?_, fun aY aN => ?_⟩
    ·rintro c (rfl | ag)
     ·exact bs
     ·exact lZ c (aa c ag)
    ·rintro c (rfl | ag) bo
     ·exact yj (U _ bo)
     ·exact au c ag bo
    ·rw [ai]
     refine .inr ⟨b, cap, cur, ty, fr, e8, by rw [hl]; exact bn, .inl rfl, cT, cm, by rw [hl]; exact c8, c4, fq, fR.all hr, by rw [hl]; exact aK aY aN, fun c ag => .inr ag, fun ag => yj (aa _ ag)⟩
 | _, _, .tuple fR, F, cs, S, h => by
   rw [ai] at h
   obtain ⟨e7, e8, U, aa, au, aK⟩ := aH.kk fR h
   exact ⟨e7, e8, U, aa, au, fun aY aN => by rw [ai]; exact aK aY aN⟩
 | _, _, .ref ab, F, cs, S, h => by
   rw [ai] at h
   obtain ⟨b, o, c2, U, aa, au, aK⟩ := h
   obtain ⟨e7, e8, bn, bs, cT, cm⟩ := ai.kk ab aK
   refine ⟨fun _ => False, S, fun _ h => h.elim, fun _ h => h, fun _ _ h => h, fun aY aN => ?_⟩
   rw [ai]
   exact ⟨b, o, c2, U, aN _ (.inl aa), au, ai.mono (fun _ h => h) _ _ _ _ (fun b J => bs b J) (cm aY fun b J => aN b (J.imp id fun h => (bn b h).elim))⟩
 | _, _, .trans ab he, F, cs, S, h => by
   obtain ⟨e7, e8, U, aa, au, aK⟩ := ai.kk ab h
   obtain ⟨uV, r7, bn, bs, cT, cm⟩ := ai.kk he (F := fun b => F b ∨ e7 b) (aK _ fun _ h => h)
   refine ⟨fun b => e7 b ∨ uV b, r7, ?_, fun b J => aa b (bs b J), ?_, fun aY aN => cm aY fun b J => ?_⟩
   ·rintro b (h | h)
    ·exact U b h
    ·exact aa b (bn b h)
   ·rintro b J (h | h)
    ·exact au b (bs b J) h
    ·exact cT b J h
   ·rcases J with (J | J) | J
    ·exact aN b (.inl J)
    ·exact aN b (.inr (.inl J))
    ·exact aN b (.inr (.inr J))
theorem aH.kk : ∀ {ds es : List j}, gG ds es → ∀ {F : Nat → Prop} {cs : List Value} {S : Nat → Prop}, aH w F ds cs S →
  ∃ e7 e8 : Nat → Prop, (∀ b, e7 b → S b) ∧ (∀ b, e8 b → S b) ∧ (∀ b, e8 b → ¬ e7 b) ∧ ∀ aY, (∀ b, F b ∨ e7 b → aY b) → aH w aY es cs e8
 | _, _, .nil, F, cs, S, h => ⟨fun _ => False, fun _ => False, fun _ h => h.elim, fun _ h => h.elim, fun _ h => h.elim, fun aY aN => by rw [aH] at h ⊢; exact h⟩
 | _, _, .cons ab fR, F, cs, S, h => by
   rw [aH] at h
   obtain ⟨bA, bG, bf, cj, rfl, g2, g3, g4, g5, g6⟩ := h
   obtain ⟨Ev, yk, a7, a2, a3, a4⟩ := ai.kk ab g2
   obtain ⟨uV, r7, h5, fK, kJ, ct⟩ := aH.kk fR g3
   refine ⟨fun b => Ev b ∨ uV b, fun b => yk b ∨ r7 b, ?_, ?_, ?_, fun aY aN => ?_⟩
   ·rintro b (h | h)
    ·exact g4 b (a7 b h)
    ·exact g5 b (h5 b h)
   ·rintro b (h | h)
    ·exact g4 b (a2 b h)
    ·exact g5 b (fK b h)
   ·rintro b (h | h) (aX | aX)
    ·exact a3 b h aX
    ·exact g6 b (a2 b h) (h5 b aX)
    ·exact g6 b (a7 b aX) (fK b h)
    ·exact kJ b h aX
   ·rw [aH]
    refine ⟨bA, bG, yk, r7, rfl, a4 aY (fun b J => aN b (J.imp id .inl)), ct aY (fun b J => aN b (J.imp id .inr)), fun b J => .inl J, fun b J => .inr J, fun b U aa => g6 b (a2 b U) (fK b aa)⟩
end
theorem dh.r8 : ∀ {d e : j}, dh d e → (∀ vs, d ≠ .tuple vs) → ∀ vs, e ≠ .tuple vs
 | _, _, .refl _, h => h
 | _, _, .iP _, _ => fun _ h => by cases h
 | _, _, .oy, _ => fun _ h => by cases h
 | _, _, .any _, _ => fun _ h => by cases h
 | _, _, .share d _ _ _, h => fun vs he => by cases d <;> first | (cases he; done) | exact h _ rfl
 | _, _, .agg _, _ => fun _ h => by cases h
 | _, _, .bb _, _ => fun _ h => by cases h
 | _, _, .aJ _, _ => fun _ h => by cases h
 | _, _, .tuple _, h => fun _ _ => h _ rfl
 | _, _, .ref _, _ => fun _ h => by cases h
 | _, _, .trans h k, aO => dh.r8 k (dh.r8 h aO)
theorem dh.fk : ∀ {d e : j} {v : Value}, dh d e → (∀ vs, d ≠ .tuple vs) → b7.fk d v → b7.fk e v
 | _, _, _, .refl _, _, h => h
 | _, _, _, .iP _, _, h => h
 | _, _, _, .oy, _, h => h
 | _, _, _, .any _, _, h => h
 | _, _, _, .share d _ aO _, _, h => by cases d <;> first | exact h | exact (aO _ rfl).elim
 | _, _, _, .agg _, _, h => h
 | _, _, _, .bb _, _, h => h
 | _, _, _, .aJ _, _, h => h
 | _, _, _, .tuple _, aO, _ => (aO _ rfl).elim
 | _, _, _, .ref _, _, h => h
 | _, _, _, .trans h k, aO, R => dh.fk k (dh.r8 h aO) (dh.fk h aO R)
theorem gG.get : ∀ {ds es : List j}, gG ds es → ∀ (k : Nat) (e : j), es[k]? = some e → ∃ d, ds[k]? = some d ∧ dh d e
 | _, _, .nil, k, e, h => by simp at h
 | _, _, .cons ab R, 0, e, h => by simp at h; subst h; exact ⟨_, rfl, ab⟩
 | _, _, .cons ab R, k + 1, e, h => gG.get R k e (by simpa using h)
theorem dh.cA : ∀ {d e : j} {v : Value}, dh d e → b7.cA d v → b7.cA e v
 | _, _, _, .refl _, R => R
 | _, _, _, .iP _, R => R
 | _, _, _, .oy, R => R
 | _, _, _, .any _, R => R
 | _, _, _, .share _ _ iM _, R => uz iM R
 | _, _, _, .agg _, R => R
 | _, _, _, .bb _, R => R
 | _, _, _, .aJ _, R => R
 | _, _, _, .ref _, R => R
 | _, _, _, .tuple ab, R => by
   obtain ⟨arr, U, aa, au⟩ := R
   refine ⟨arr, U, aa.trans ab.len.symm, fun k e x he an => ?_⟩
   obtain ⟨d, ah, hw⟩ := ab.get k e he
   obtain ⟨a7, a2, a3⟩ := au k d x ah an
   exact ⟨hw.fk a2 a7, hw.r8 a2, a3.trans hw.wd.symm⟩
 | _, _, _, .trans h k, R => dh.cA k (dh.cA h R)
theorem dh.tree : ∀ {d e : j}, dh d e → d.tree = true → e.tree = true
 | _, _, .refl _, ab => ab
 | _, _, .iP _, _ => rfl
 | _, _, .oy, _ => rfl
 | _, _, .any _, _ => rfl
 | _, _, .share d _ _ hG, ab => by cases d <;> first | exact ab | rfl | exact (hG _ rfl).elim
 | _, _, .agg _, _ => rfl
 | _, _, .bb _, _ => rfl
 | _, _, .aJ _, _ => rfl
 | _, _, .tuple _, _ => rfl
 | _, _, .ref _, _ => rfl
 | _, _, .trans h k, ab => dh.tree k (dh.tree h ab)
mutual
def j.nr : j → List Nat
 | .h x q => if q.isEmpty then [] else [x]
 | .ak x _ => [x]
 | .J x _ => [x]
 | .fn _ cap => j.qp cap
 | _ => []
def j.qp : List j → List Nat
 | [] => []
 | d :: ds => d.nr ++ j.qp ds
end
def qq (s aj : ad) (x : Nat) (D : List Nat) : Prop := aj x = s x ∨ aj x = .hole ∨ ((s x).own = true ∧ (aj x).own = true ∧ x ∉ D)
theorem qq.less {s aj : ad} {x : Nat} {D E : List Nat} (h : qq s aj x D) (Ew : ∀ u ∈ E, u ∈ D) : qq s aj x E := by
 rcases h with h | h | ⟨U, aa, au⟩
 ·exact .inl h
 ·exact .inr (.inl h)
 ·exact .inr (.inr ⟨U, aa, fun an => au (Ew x an)⟩)
theorem ar.keep {aY : Nat → Prop} (aN : ∀ b, F b → aY b) : ∀ n, (∀ (d : j) (v : Value) (cq : Nat → Prop), SizeOf.sizeOf d ≤ n → (∀ x ∈ d.R, qq s aj x d.nr) → ar w F s al d v cq → ar w aY aj al d v cq) ∧
  (∀ (ds : List j) (vs : List Value), SizeOf.sizeOf ds ≤ n → (∀ x ∈ j.cJ ds, qq s aj x (j.qp ds)) → cx w F s al ds vs → cx w aY aj al ds vs) := by
 intro n
 induction n with
 | zero =>
   refine ⟨fun d v cq bd => ?_, fun ds vs bd => ?_⟩
   ·cases d <;> simp at bd <;> omega
   ·cases ds <;> simp at bd <;> omega
 | succ n ih =>
   refine ⟨fun d v cq bd ah h => ?_, fun ds vs bd ah h => ?_⟩
   ·cases d with
    | hole => rw [ar]; trivial
    | h x q =>
      rw [ar] at h ⊢
      intro e c7 ak
      rcases ah x (by simp [j.R]) with he | he | ⟨yl, Ex, qs⟩
      ·rw [he] at c7 ⊢; exact h e c7 ak
      ·rw [he] at c7
       cases q with
       | nil => simp only [j.sub, Option.some.injEq] at c7; subst c7; simp [j.plain] at ak
       | cons k q => simp [j.sub] at c7
      ·cases q with
       | nil =>
         simp only [j.sub, Option.some.injEq] at c7
         subst c7
         obtain ⟨bQ, a0, dF, er, e_⟩ := h (s x) (by simp only [j.sub]) (ll yl).1
         simp only [b2, Option.some.injEq, Prod.mk.injEq, true_and] at dF
         exact ⟨br (al x), none, by simp only [b2], by rw [er, ← dF.1], ((ll Ex).2.2.2.2.2 _).2 (((ll yl).2.2.2.2.2 _).1 e_)⟩
       | cons k q => exact (qs (by simp [j.nr])).elim
    | ak x q =>
      rw [ar] at h ⊢
      intro e c7 ag
      rcases ah x (by simp [j.R]) with he | he | ⟨_, _, qs⟩
      ·rw [he] at c7 ag ⊢; exact h e c7 ag
      ·rw [he] at ag
       cases q <;> simp [j.db] at ag
      ·exact (qs (by simp [j.nr])).elim
    | J x k =>
      rw [ar] at h ⊢
      intro ak
      rcases ah x (by simp [j.R]) with he | he | ⟨_, _, qs⟩
      rotate_left 2
      ·exact (qs (by simp [j.nr])).elim
      ·rw [he] at ak
       obtain ⟨b, cur, e, fr, U, aa, au, aK⟩ := h ak
       exact ⟨b, cur, e, fr, U, aN b aa, au, aK⟩
      ·rw [he] at ak; simp [j.plain] at ak
    | fn f cap =>
      rw [ar] at h ⊢
      obtain ⟨arr, rfl, ag⟩ := h
      exact ⟨arr, rfl, ih.2 _ _ (by simp at bd; omega) (by simpa [j.R, j.nr] using ah) ag⟩
    | _ =>
      have aX := (ar.bE rfl).1 h
      exact (ar.bE rfl).2 ⟨aX.1, ai.mono aN _ _ _ _ (fun _ h => h) aX.2⟩
   ·cases ds with
    | nil => rw [cx] at h ⊢; exact h
    | cons d ds =>
      rw [cx] at h ⊢
      obtain ⟨v, fW, rfl, U, aa⟩ := h
      simp at bd
      simp only [j.cJ, List.mem_append] at ah
      exact ⟨v, fW, rfl, ih.1 _ _ _ (by omega) (fun x an => (ah x (.inl an)).less fun u hu => by simp [j.qp, hu]) U, ih.2 _ _ (by omega) (fun x an => (ah x (.inr an)).less fun u hu => by simp [j.qp, hu]) aa⟩
def qt (s : ad) (l : List (Nat × j)) : Prop :=
 ∀ p ∈ l, p.2 = s p.1 ∨ ((s p.1).tree = true ∧ dh (s p.1) p.2 ∧ ∀ bC ∈ l, p.1 ∉ bC.2.R ∨ ((s p.1).own = true ∧ p.2.own = true ∧ p.1 ∉ bC.2.nr))
theorem ym : ∀ (l : List (Nat × j)) (t : Nat), I l t = .hole ∨ ∃ p ∈ l, p.1 = t ∧ I l t = p.2 := by
 intro l
 induction l with
 | nil => intro t; exact .inl rfl
 | cons p l ih =>
   intro t
   obtain ⟨u, d⟩ := p
   simp only [I]
   split
   ·rename_i e; exact .inr ⟨(u, d), by simp, e.symm, rfl⟩
   ·rcases ih t with h | ⟨p, ak, h⟩
    ·exact .inl h
    ·exact .inr ⟨p, by simp [ak], h⟩
theorem ba.Ey (h : ba w0 F0 X F S s al w) {l : List (Nat × j)} (hw : qt s l) : ∃ aY az, ba w0 F0 X aY az (I l) al w := by
 have each : ∀ t, ∃ e7 e8 : Nat → Prop, (∀ b, e7 b → S t b) ∧ (∀ b, e8 b → S t b) ∧ (∀ b, e8 b → ¬ e7 b) ∧ ∀ aY, (∀ b, F b ∨ e7 b → aY b) → ar w aY (I l) al (I l t) (al t) e8 := by
  intro t
  rcases ym l t with e | ⟨p, ak, rfl, e⟩
  ·exact ⟨fun _ => False, fun _ => False, fun _ h => h.elim, fun _ h => h.elim, fun _ h => h.elim, fun aY _ => by rw [e, ar]; trivial⟩
  ·rw [e]
   rcases hw p ak with ah | ⟨aG, iE, _⟩
   ·refine ⟨fun _ => False, S p.1, fun _ h => h.elim, fun _ h => h, fun _ _ h => h, fun aY aN => ?_⟩
    rw [ah]
    refine (ar.keep (fun b J => aN b (.inl J)) (SizeOf.sizeOf (s p.1))).1 _ _ _ (Nat.le_refl _) ?_ (h.cl p.1)
    intro x an
    rcases ym l x with eE | ⟨bC, cQ, rfl, eE⟩
    ·exact .inr (.inl eE)
    ·rcases hw bC cQ with hJ | ⟨_, _, hG⟩
     ·exact .inl (eE.trans hJ)
     ·rcases hG p ak with hG | ⟨i_, ke, r0⟩
      ·exact (hG (by rw [ah]; exact an)).elim
      ·exact .inr (.inr ⟨i_, by rw [eE]; exact ke, by rw [ah] at r0; exact r0⟩)
   ·obtain ⟨g1, g2⟩ := (ar.bE aG).1 (h.cl p.1)
    obtain ⟨e7, e8, bn, bs, cT, cm⟩ := ai.kk iE g2
    exact ⟨e7, e8, bn, bs, cT, fun aY aN => (ar.bE (iE.tree aG)).2 ⟨iE.cA g1, cm aY aN⟩⟩
 have bA := fun t => (each t).choose_spec
 let e7 := fun t => (each t).choose
 have bG := fun t => (bA t).choose_spec
 let e8 := fun t => (bA t).choose
 have fp : ∀ t b, e7 t b → S t b := fun t => (bG t).1
 have eN : ∀ t b, e8 t b → S t b := fun t => (bG t).2.1
 have gz : ∀ t b, e8 t b → ¬ e7 t b := fun t => (bG t).2.2.1
 have fZ := fun t => (bG t).2.2.2
 refine ⟨fun b => F b ∨ ∃ t, e7 t b, e8, fun b J => .inl (h.eF b J), ?_, ?_, fun t b J => h.cZ t b (eN t b J), ?_, fun t u b cu J hu => h.dt t u b cu (eN t b J) (eN u b hu), fun t b J => h.cq t b (eN t b J), ?_, h.old, h.size, h.os, h.tape, h.output⟩
 ·rintro b (J | ⟨t, J⟩)
  ·exact h.eW b J
  ·exact .inr (h.cq t b (fp t b J))
 ·rintro b (J | ⟨t, J⟩)
  ·exact h.dg b J
  ·exact h.cZ t b (fp t b J)
 ·rintro t b J (bo | ⟨u, hu⟩)
  ·exact h.dz t b (eN t b J) bo
  ·by_cases e : t = u
   ·subst e; exact gz t b J hu
   ·exact h.dt t u b e (eN t b J) (fp u b hu)
 ·intro t
  exact fZ t _ (fun b J => J.imp id fun h => ⟨t, h⟩)
end
inductive ae where
 | skip
 | aA (ros : List bm) (keep : Option (List Nat))
 | fS (ros : List bm) (kj : List (List Nat)) (keep : Option (List Nat))
 | seq (a b : ae)
 | cond (c : aq) (a b : ae)
 | block (id : Nat) (b : ae)
 | loop (b : ae)
 | exit (id : Nat)
 | ret
 | gp (T : (Exit → ad → Prop) → ad → Prop) (b : ae)
def cC (n : Fr) : Code → Option ae
 | .skip => some .skip
 | .region _ ops false => (kP n ops ops.toList).map fun r => .aA r none
 | .region _ ops true => if qn (jO ops) = true then (kP n ops ops.toList).map fun r => .fS r (jO ops) none else none
 | .seq a b => match cC n a, cC n b with
   | some a, some b => some (.seq a b)
   | _, _ => none
 | .cond c a b => match cr c, cC n a, cC n b with
   | some c, some a, some b => some (.cond c a b)
   | _, _, _ => none
 | .block id b => (cC n b).map (.block id)
 | .loop b => (cC n b).map .loop
 | .exit id => some (.exit id)
 | .ret => some .ret
 | _ => none
def ae.hx : ae → ae
 | .aA ros _ => .aA ros none
 | .fS ros el _ => .fS ros el none
 | .seq a b => .seq a.hx b.hx
 | .cond c a b => .cond c a.hx b.hx
 | .block id b => .block id b.hx
 | .loop b => .loop b.hx
 | .gp T b => .gp T b.hx
 | c => c
def ae.strip : ae → ae
 | .aA ros _ => .aA (ros.map bm.un) none
 | .fS ros el _ => .fS (ros.map bm.un) el none
 | .seq a b => .seq a.strip b.strip
 | .cond c a b => .cond c a.strip b.strip
 | .block id b => .block id b.strip
 | .loop b => .loop b.strip
 | .gp _ b => b.strip
 | c => c
theorem ae.yn : ∀ c : ae, c.hx.strip = c.strip := by
 intro c
 induction c with
 | seq a b gq gr => simp only [ae.hx, ae.strip, gq, gr]
 | cond c a b gq gr => simp only [ae.hx, ae.strip, gq, gr]
 | block id b ih => simp only [ae.hx, ae.strip, ih]
 | loop b ih => simp only [ae.hx, ae.strip, ih]
 | gp T b ih => simp only [ae.hx, ae.strip, ih]
 | _ => rfl
def ae.bare (H : ((Exit → ad → Prop) → ad → Prop) → ae → Prop) : ae → Prop
 | .aA _ k => k = none
 | .fS _ _ k => k = none
 | .seq a b => a.bare H ∧ b.bare H
 | .cond _ a b => a.bare H ∧ b.bare H
 | .block _ b => b.bare H
 | .loop b => b.bare H
 | .gp T b => H T b
 | _ => True
def ae.kS (H : ((Exit → ad → Prop) → ad → Prop) → ae → Prop) : ae → Prop
 | .seq a b => a.kS H ∧ b.kS H
 | .cond _ a b => a.kS H ∧ b.kS H
 | .block _ b => b.kS H
 | .loop b => b.kS H
 | .gp T b => H T b.hx
 | _ => True
theorem ae.yo {H : ((Exit → ad → Prop) → ad → Prop) → ae → Prop} : ∀ c : ae, c.kS H → c.hx.bare H := by
 intro c
 induction c with
 | seq a b gq gr => intro h; exact ⟨gq h.1, gr h.2⟩
 | cond c a b gq gr => intro h; exact ⟨gq h.1, gr h.2⟩
 | block id b ih => intro h; exact ih h
 | loop b ih => intro h; exact ih h
 | aA => intro _; rfl
 | fS => intro _; rfl
 | gp T b _ => intro h; exact h
 | _ => intro _; trivial
def ae.plain : ae → Bool
 | .seq a b => a.plain && b.plain
 | .cond _ a b => a.plain && b.plain
 | .block _ b => b.plain
 | .loop b => b.plain
 | .gp _ _ => false
 | _ => true
theorem ae.Ez {H : ((Exit → ad → Prop) → ad → Prop) → ae → Prop} : ∀ c : ae, c.plain = true → c.kS H := by
 intro c
 induction c with
 | seq a b gq gr => intro h; simp only [ae.plain, Bool.and_eq_true] at h; exact ⟨gq h.1, gr h.2⟩
 | cond c a b gq gr => intro h; simp only [ae.plain, Bool.and_eq_true] at h; exact ⟨gq h.1, gr h.2⟩
 | block id b ih => intro h; exact ih h
 | loop b ih => intro h; exact ih h
 | gp T b _ => intro h; cases h
 | _ => intro _; trivial
def andThen (K : ad → Prop) (Q : Exit → ad → Prop) : Exit → ad → Prop
 | .normal, s => K s
 | e, s => Q e s
def oz (id : Nat) (Q : Exit → ad → Prop) : Exit → ad → Prop
 | .exit i, s => if i = id then Q .normal s else Q (.exit i) s
 | e, s => Q e s
def dS (K : ad → Prop) (s : ad) : Prop := K s ∨ ∃ l, qt s l ∧ K (I l)
def qu : Option (List Nat) → (ad → Prop) → ad → Prop
 | none, K, s => dS K s
 | some k, K, s => K (I (k.map fun t => (t, s t)))
def cg (C : bp) : ae → (Exit → ad → Prop) → ad → Prop
 | .skip, Q, s => Q .normal s
 | .aA ros keep, Q, s => ht C s ros (qu keep (Q .normal))
 | .fS ros kj keep, Q, s => ∀ l, uQ kj l → gn C ros s l (qu keep (Q .normal))
 | .seq a b, Q, s => cg C a (andThen (dS (cg C b Q)) Q) s
 | .cond c a b, Q, s => match aw s c with
   | .bool dk => if dk = true then cg C a Q s else cg C b Q s
   | .c1 => cg C a Q s ∧ cg C b Q s
   | _ => False
 | .block id b, Q, s => cg C b (oz id Q) s
 | .loop b, Q, s => dS (fun s => ∀ Z : ad → Prop, (∀ aj, cg C b (andThen (dS Z) Q) aj → Z aj) → Z s) s
 | .exit id, Q, s => Q (.exit id) s
 | .ret, Q, s => Q .ret s
 | .gp T _, Q, s => ∀ cR : Exit → ad → Prop, (∀ e s, Q e s → cR e s) → T cR s
section
variable {C : bp}
theorem uW {s : ad} {o : bm} {K b6 : ad → Prop} (h : hM C s o K) (ah : ∀ s, K s → b6 s) : hM C s o b6 := by
 unfold hM at h ⊢
 split
 ·rename_i aT; rw [aT] at h; exact r5 h fun av s1 => ah _
 ·rename_i t b aT
  rw [aT] at h
  simp only at h
  split
  ·rename_i dk R
   rw [R] at h
   simp only at h
   split
   ·rename_i J; rw [if_pos J] at h; exact r5 h fun av s1 => ah _
   ·rename_i J; rw [if_neg J] at h; exact ah _ h
  ·rename_i R; rw [R] at h; exact ah _ h
  ·rename_i U aa
   split at h
   ·exact U _ (by assumption)
   ·exact aa (by assumption)
   ·exact h
theorem yp {K b6 : ad → Prop} (ah : ∀ s, K s → b6 s) : ∀ {ros : List bm} {s : ad}, ht C s ros K → ht C s ros b6 := by
 intro ros
 induction ros with
 | nil => intro s h; exact ah s h
 | cons o ros ih => intro s h; exact uW h fun s h => ih h
theorem yq {ros : List bm} {K b6 : ad → Prop} (ah : ∀ s, K s → b6 s) : ∀ {l : List Nat} {s : ad}, gn C ros s l K → gn C ros s l b6 := by
 intro l
 induction l with
 | nil => intro s h; exact ah s h
 | cons i l ih =>
   intro s h
   simp only [gn] at h ⊢
   split
   ·rename_i bq; rw [bq] at h; exact ih h
   ·rename_i o bq; rw [bq] at h; exact uW h fun s h => ih h
theorem oA {K b6 : ad → Prop} (ah : ∀ s, K s → b6 s) (s : ad) (h : dS K s) : dS b6 s :=
 h.imp (ah s) fun ⟨l, U, aa⟩ => ⟨l, U, ah _ aa⟩
theorem yr {keep : Option (List Nat)} {K b6 : ad → Prop} (ah : ∀ s, K s → b6 s) (s : ad) (h : qu keep K s) : qu keep b6 s := by
 cases keep with
 | none => exact oA ah s h
 | some k => exact ah _ h
theorem ys {keep : Option (List Nat)} {K : ad → Prop} {s : ad} (h : qu keep K s) : dS K s := by
 cases keep with
 | none => exact h
 | some k =>
   refine .inr ⟨_, ?_, h⟩
   intro p ak
   obtain ⟨t, _, rfl⟩ := List.mem_map.1 ak
   exact .inl rfl
theorem uX {K b6 : ad → Prop} {Q cR : Exit → ad → Prop} (ah : ∀ s, K s → b6 s) (bR : ∀ e s, Q e s → cR e s) : ∀ e s, andThen K Q e s → andThen b6 cR e s := by
 intro e s h
 cases e with
 | normal => exact ah s h
 | _ => exact bR _ s h
theorem yt : ∀ (c : ae) {Q cR : Exit → ad → Prop} {s : ad}, (∀ e s, Q e s → cR e s) → cg C c Q s → cg C c cR s := by
 intro c
 induction c with
 | skip => intro Q cR s bR h; exact bR _ _ h
 | aA ros keep => intro Q cR s bR h; exact yp (yr (bR _)) h
 | fS ros kj keep => intro Q cR s bR h l hl; exact yq (yr (bR _)) (h l hl)
 | seq a b gq gr =>
   intro Q cR s bR h
   exact gq (uX (fun s h => oA (fun _ h => gr bR h) s h) bR) h
 | cond c a b gq gr =>
   intro Q cR s bR h
   simp only [cg] at h ⊢
   split
   ·rename_i dk J
    rw [J] at h
    simp only at h
    split
    ·rename_i e; rw [if_pos e] at h; exact gq bR h
    ·rename_i e; rw [if_neg e] at h; exact gr bR h
   ·rename_i J; rw [J] at h; exact ⟨gq bR h.1, gr bR h.2⟩
   ·rename_i U aa
    split at h
    ·exact U _ (by assumption)
    ·exact aa (by assumption)
    ·exact h
 | block id b ih =>
   intro Q cR s bR h
   refine ih ?_ h
   intro e s h
   cases e with
   | exit i =>
     simp only [oz] at h ⊢
     split
     ·rename_i e; rw [if_pos e] at h; exact bR _ _ h
     ·rename_i e; rw [if_neg e] at h; exact bR _ _ h
   | _ => exact bR _ _ h
 | loop b ih =>
   intro Q cR s bR h
   refine oA (fun s h Z oB => ?_) s h
   exact h Z fun aj en => oB aj (ih (uX (fun _ h => h) bR) en)
 | exit id => intro Q cR s bR h; exact bR _ _ h
 | ret => intro Q cR s bR h; exact bR _ _ h
 | gp T b _ => intro Q cR s bR h gH aa; exact h gH fun e s he => aa e s (bR e s he)
theorem yu : ∀ (c : ae) {Q : Exit → ad → Prop} {s : ad}, cg C c Q s → cg C c.hx Q s := by
 intro c
 induction c with
 | aA ros keep => intro Q s h; exact yp (fun s h => ys h) h
 | fS ros el keep => intro Q s h l hl; exact yq (fun s h => ys h) (h l hl)
 | seq a b gq gr => intro Q s h; exact gq (yt a (uX (fun s h => oA (fun _ h => gr h) s h) (fun _ _ h => h)) h)
 | cond c a b gq gr =>
   intro Q s h
   simp only [ae.hx, cg] at h ⊢
   split
   ·rename_i dk J
    rw [J] at h
    simp only at h
    split
    ·rename_i e; rw [if_pos e] at h; exact gq h
    ·rename_i e; rw [if_neg e] at h; exact gr h
   ·rename_i J; rw [J] at h; exact ⟨gq h.1, gr h.2⟩
   ·rename_i U aa
    split at h
    ·exact U _ (by assumption)
    ·exact aa (by assumption)
    ·exact h
 | block id b ih => intro Q s h; exact ih h
 | loop b ih =>
   intro Q s h
   refine oA (fun s h Z oB => ?_) s h
   exact h Z fun aj en => oB aj (ih en)
 | gp T b _ => intro Q s h; exact h
 | _ => intro Q s h; exact h
variable {w0 w : World} {F0 X : Nat → Prop} {n : Fr} {ρ : Nat → Value} {s : ad} {a : Act}
def oC (w0 : World) (F0 X : Nat → Prop) (n : Fr) (ρ : Nat → Value) (Q : Exit → ad → Prop) : Exit → Act → World → Prop := fun e a w => ∃ s, Q e s ∧ Rel w0 F0 X n ρ s a w
theorem Rel.dS {K : ad → Prop} {s : ad} {a : Act} {w : World} (aD : Rel w0 F0 X n ρ s a w) (h : dS K s) : ∃ aj, K aj ∧ Rel w0 F0 X n ρ aj a w := by
 rcases h with h | ⟨l, U, aa⟩
 ·exact ⟨s, h, aD⟩
 ·obtain ⟨g1, g2, g3, F, S, g4⟩ := aD
  obtain ⟨aY, az, g5⟩ := g4.Ey U
  exact ⟨I l, aa, g1, g2, g3, aY, az, g5⟩
theorem ae.EA {c : ae} (h : c.strip = .skip) : c = .skip ∨ ∃ T b, c = .gp T b := by cases c <;> first | exact .inl rfl | exact .inr ⟨_, _, rfl⟩ | cases h
theorem ae.EB {c : ae} (h : c.strip = .ret) : c = .ret ∨ ∃ T b, c = .gp T b := by cases c <;> first | exact .inl rfl | exact .inr ⟨_, _, rfl⟩ | cases h
theorem ae.EC {c : ae} {i : Nat} (h : c.strip = .exit i) : c = .exit i ∨ ∃ T b, c = .gp T b := by cases c <;> first | exact .inl h | exact .inr ⟨_, _, rfl⟩ | cases h
theorem ae.ED {c : ae} {r : List bm} {k : Option (List Nat)} (h : c.strip = .aA r k) : (∃ ros cF, c = .aA ros cF ∧ ros.map bm.un = r) ∨ ∃ T b, c = .gp T b := by
 cases c <;> first | (cases h; exact .inl ⟨_, _, rfl, rfl⟩) | exact .inr ⟨_, _, rfl⟩ | cases h
theorem ae.EE {c : ae} {r : List bm} {el : List (List Nat)} {k : Option (List Nat)} (h : c.strip = .fS r el k) : (∃ ros yv cF, c = .fS ros yv cF ∧ ros.map bm.un = r ∧ yv = el) ∨ ∃ T b, c = .gp T b := by
 cases c <;> first | (cases h; exact .inl ⟨_, _, _, rfl, rfl, rfl⟩) | exact .inr ⟨_, _, rfl⟩ | cases h
theorem ae.EF {c x y : ae} (h : c.strip = .seq x y) : (∃ a b, c = .seq a b ∧ a.strip = x ∧ b.strip = y) ∨ ∃ T b, c = .gp T b := by
 cases c <;> first | (cases h; exact .inl ⟨_, _, rfl, rfl, rfl⟩) | exact .inr ⟨_, _, rfl⟩ | cases h
theorem ae.EG {c x y : ae} {o : aq} (h : c.strip = .cond o x y) : (∃ i9 a b, c = .cond i9 a b ∧ i9 = o ∧ a.strip = x ∧ b.strip = y) ∨ ∃ T b, c = .gp T b := by
 cases c <;> first | (cases h; exact .inl ⟨_, _, _, rfl, rfl, rfl, rfl⟩) | exact .inr ⟨_, _, rfl⟩ | cases h
theorem ae.EH {c x : ae} {i : Nat} (h : c.strip = .block i x) : (∃ a, c = .block i a ∧ a.strip = x) ∨ ∃ T b, c = .gp T b := by
 cases c <;> first | (cases h; exact .inl ⟨_, rfl, rfl⟩) | exact .inr ⟨_, _, rfl⟩ | cases h
theorem ae.EI {c x : ae} (h : c.strip = .loop x) : (∃ a, c = .loop a ∧ a.strip = x) ∨ ∃ T b, c = .gp T b := by
 cases c <;> first | (cases h; exact .inl ⟨_, rfl, rfl⟩) | exact .inr ⟨_, _, rfl⟩ | cases h
theorem yw (aM : C.c3) {H : ((Exit → ad → Prop) → ad → Prop) → ae → Prop}
  (ja : ∀ (c : Code) (T : (Exit → ad → Prop) → ad → Prop) (b : ae) (Q : Exit → ad → Prop) (s : ad) (a : Act) (w : World), H T b → cC n c = some b.strip → T Q s → Rel w0 F0 X n ρ s a w → c.wp C.P (oC w0 F0 X n ρ Q) a w) :
  ∀ (c : Code) {dd : ae} {Q : Exit → ad → Prop} {s : ad} {a : Act} {w : World}, cC n c = some dd.strip → dd.bare H → cg C dd Q s → Rel w0 F0 X n ρ s a w → c.wp C.P (oC w0 F0 X n ρ Q) a w := by
 intro c
 induction c with
 | skip =>
   intro dd Q s a w R eX h aD
   have gT := R
   simp only [cC, Option.some.injEq] at R
   rcases ae.EA R.symm with rfl | ⟨T, b, rfl⟩
   ·exact wp_skip ⟨s, h, aD⟩
   ·exact ja _ T b Q s a w eX (by simpa only [ae.strip] using gT) (h Q fun _ _ h => h) aD
 | region id ops draw =>
   intro dd Q s a w R eX h aD
   have gT := R
   cases draw with
   | false =>
     simp only [cC, Option.map_eq_some_iff] at R
     obtain ⟨EJ, qv, R⟩ := R
     rcases ae.ED R.symm with ⟨ros, k, rfl, rfl⟩ | ⟨T, b, rfl⟩
     rotate_left
     ·exact ja _ T b Q s a w eX (by simpa only [ae.strip] using gT) (h Q fun _ _ h => h) aD
     cases eX
     exact Ej aM qv (fun aj bK ao ah cO => cO.dS ah) h aD
   | true =>
     simp only [cC] at R
     split at R
     ·rename_i J
      simp only [Option.map_eq_some_iff] at R
      obtain ⟨EJ, qv, R⟩ := R
      rcases ae.EE R.symm with ⟨ros, el, k, rfl, rfl, rfl⟩ | ⟨T, b, rfl⟩
      rotate_left
      ·exact ja _ T b Q s a w eX (by simpa only [ae.strip] using gT) (h Q fun _ _ h => h) aD
      cases eX
      refine wp_region_draw fun t => ?_
      rw [show Region.schedule (C.P.follows .mixedOrders) ops t = Region.linearise .any ops t by simp [Region.schedule, aM.mixed]]
      exact yd aM qv (fun aj bK ao ah cO => cO.dS ah) _ s a _ (h _ (Et J t)) (aD.drawn _)
     ·cases R
 | seq x y EK r9 =>
   intro dd Q s a w R eX h aD
   have gT := R
   simp only [cC] at R
   split at R
   ·rename_i p8 EL an a8
    simp only [Option.some.injEq] at R
    rcases ae.EF R.symm with ⟨bW, gM, rfl, rfl, rfl⟩ | ⟨T, b, rfl⟩
    rotate_left
    ·exact ja _ T b Q s a w eX (by simpa only [ae.strip] using gT) (h Q fun _ _ h => h) aD
    refine wp_seq (wp_mono (EK an eX.1 h aD) ?_)
    rintro e bK ao ⟨aj, aX, cO⟩
    cases e with
    | normal =>
      obtain ⟨aj, aX, cO⟩ := cO.dS aX
      exact r9 a8 eX.2 aX cO
    | _ => exact ⟨aj, aX, cO⟩
   ·cases R
 | cond x y z r9 yx =>
   intro dd Q s a w R eX h aD
   have gT := R
   simp only [cC] at R
   split at R
   ·rename_i p8 EL sz an a8 bd
    simp only [Option.some.injEq] at R
    rcases ae.EG R.symm with ⟨bW, gM, lV, rfl, rfl, rfl, rfl⟩ | ⟨T, b, rfl⟩
    rotate_left
    ·exact ja _ T b Q s a w eX (by simpa only [ae.strip] using gT) (h Q fun _ _ h => h) aD
    have cO := aD
    obtain ⟨ab, cV, bo, F, S, lo⟩ := cO
    have aC := (dm (a := a) lo (fun _ => rfl) an).2
    simp only [cg] at h
    split at h
    ·rename_i dk J
     rw [J] at aC
     have := m5 aC
     refine wp_cond this ?_
     split
     ·rename_i e; rw [if_pos e] at h; exact r9 a8 eX.1 h aD
     ·rename_i e; rw [if_neg e] at h; exact yx bd eX.2 h aD
    ·rename_i J
     rw [J] at aC
     obtain ⟨dk, h2⟩ := wZ aC
     refine wp_cond h2 ?_
     split
     ·exact r9 a8 eX.1 h.1 aD
     ·exact yx bd eX.2 h.2 aD
    ·exact h.elim
   ·cases R
 | block id b ih =>
   intro dd Q s a w R eX h aD
   have gT := R
   simp only [cC, Option.map_eq_some_iff] at R
   obtain ⟨rR, J, R⟩ := R
   rcases ae.EH R.symm with ⟨dk, rfl, rfl⟩ | ⟨T, b, rfl⟩
   rotate_left
   ·exact ja _ T b Q s a w eX (by simpa only [ae.strip] using gT) (h Q fun _ _ h => h) aD
   refine wp_block (wp_mono (ih J eX h aD) ?_)
   rintro e bK ao ⟨aj, aX, cO⟩
   cases e with
   | exit i =>
     simp only [oz] at aX
     simp only [Exit.inBlock]
     split
     ·rename_i e; rw [if_pos e] at aX; exact ⟨aj, aX, cO⟩
     ·rename_i e; rw [if_neg e] at aX; exact ⟨aj, aX, cO⟩
   | _ => exact ⟨aj, aX, cO⟩
 | loop b ih =>
   intro dd Q s a w R eX h aD
   have gT := R
   simp only [cC, Option.map_eq_some_iff] at R
   obtain ⟨rR, J, R⟩ := R
   rcases ae.EI R.symm with ⟨dk, rfl, rfl⟩ | ⟨T, b, rfl⟩
   rotate_left
   ·exact ja _ T b Q s a w eX (by simpa only [ae.strip] using gT) (h Q fun _ _ h => h) aD
   obtain ⟨s, h, aD⟩ := aD.dS h
   have key := h (fun s => ∀ a w, Rel w0 F0 X n ρ s a w → ∀ (f : Frame) (k : List Item) (cs : List Frame), ∃ e bK ao, oC w0 F0 X n ρ Q e bK ao ∧ Arrives C.P (lone (f.at a (.code b :: .inLoop b :: k)) cs w) f k cs e bK ao) ?_
   ·intro f k cs
    obtain ⟨e, bK, ao, bR, mh⟩ := key a w aD f k cs
    exact ⟨e, bK, ao, bR, .of_steps (.one step_loop) mh⟩
   ·intro aj en a w aD f k cs
    obtain ⟨e, a₁, w₁, ⟨s1, bR, mi⟩, mh⟩ := ih J eX en aD f (.inLoop b :: k) cs
    cases e with
    | normal =>
      simp only [andThen] at bR
      obtain ⟨s1, bR, mi⟩ := mi.dS bR
      obtain ⟨e₂, a₂, w₂, hq₂, harr₂⟩ := bR a₁ w₁ mi f k cs
      exact ⟨e₂, a₂, w₂, hq₂, .of_steps (Steps.trans mh (.one step_inLoop)) harr₂⟩
    | exit id => exact ⟨_, a₁, w₁, ⟨s1, bR, mi⟩, .pass (x := .inLoop b) rfl (fun _ _ => .inl (by simp)) mh⟩
    | goto l => exact ⟨_, a₁, w₁, ⟨s1, bR, mi⟩, .pass (x := .inLoop b) rfl (fun _ _ => .inl (by simp)) mh⟩
    | ret => exact ⟨_, a₁, w₁, ⟨s1, bR, mi⟩, .pass (x := .inLoop b) rfl (fun _ _ => .inl (by simp)) mh⟩
    | panic Oq => exact ⟨_, a₁, w₁, ⟨s1, bR, mi⟩, .pass (x := .inLoop b) rfl (fun _ _ => .inl (by simp)) mh⟩
    | outgrown => exact ⟨_, a₁, w₁, ⟨s1, bR, mi⟩, .pass (x := .inLoop b) rfl (fun _ _ => .inl (by simp)) mh⟩
 | exit id =>
   intro dd Q s a w R eX h aD
   have gT := R
   simp only [cC, Option.some.injEq] at R
   rcases ae.EC R.symm with rfl | ⟨T, b, rfl⟩
   ·exact wp_exit ⟨s, h, aD⟩
   ·exact ja _ T b Q s a w eX (by simpa only [ae.strip] using gT) (h Q fun _ _ h => h) aD
 | ret =>
   intro dd Q s a w R eX h aD
   have gT := R
   simp only [cC, Option.some.injEq] at R
   rcases ae.EB R.symm with rfl | ⟨T, b, rfl⟩
   ·exact wp_ret ⟨s, h, aD⟩
   ·exact ja _ T b Q s a w eX (by simpa only [ae.strip] using gT) (h Q fun _ _ h => h) aD
 | _ => intro dd Q s a w R; simp [cC] at R
theorem EM (aM : C.c3) (c : Code) {dd : ae} {Q : Exit → ad → Prop} {s : ad} {a : Act} {w : World} (R : cC n c = some dd.strip) (J : dd.bare (fun _ _ => False)) (h : cg C dd Q s) (aD : Rel w0 F0 X n ρ s a w) : c.wp C.P (oC w0 F0 X n ρ Q) a w :=
 yw aM (fun _ _ _ _ _ _ _ bo => bo.elim) c R J h aD
end
def f_ : ResultVar → Nat
 | .tmp t => t
 | .cell a _ => a
def lp (C : bp) (s : ad) : ResultVar → Option j
 | .tmp t => if (s t).tree = true then (match s t with | .tuple _ => none | d => some d) else none
 | .cell a T => match s a with
   | .bb d => if fits C T d = true ∧ d.tree = true then some d else none
   | _ => none
def Ends (C : bp) (fx : List Nat) (dB : List ResultVar) (r : j) (outs : List j) (s : ad) : Prop :=
 ∃ ds, dB.map (lp C s) = ds.map some ∧ r = (match ds with | [d] => d | ds => .tuple ds) ∧ (dB.map f_).Nodup ∧
   ∀ (i : Nat) (o : j), outs[i]? = some o → o = .hole ∨ (o = s i ∧ o.dK = true ∧ i ∈ fx ∧ i ∉ dB.map f_)
section
variable {C : bp} {w0 w : World} {F0 X F : Nat → Prop} {S : Nat → Nat → Prop} {s : ad} {tmps : Array Value}
theorem yy {d : j} {x : Value} (ab : ∀ vs, d ≠ .tuple vs) (h : cA d x) : br x = fg x ∧ fk d x := by
 have : fk d x := by cases d <;> first | exact h | exact (ab _ rfl).elim
 refine ⟨?_, this⟩
 cases d <;> first
  | (obtain ⟨a, rfl⟩ := this; rfl)
  | (simp only [fk] at this
     rw [eb this]
     cases x <;> first | rfl | (simp [Value.dW] at this))
def qw (tmps : Array Value) : ResultVar → Sem Value
 | .tmp t => pure (tmps.getD t undef)
 | .cell a t => do loadVar t (← asAddr (tmps.getD a undef))
theorem EN (aM : C.c3) (h : ba w0 F0 X F S s (fun t => tmps.getD t undef) w) {v : ResultVar} {d : j} (aC : lp C s v = some d) :
  ∃ x, (qw tmps v).run C.P w = .ok x w ∧ d.tree = true ∧ (∀ vs, d ≠ .tuple vs) ∧ cA d x ∧ ai w F d (br x) (S (f_ v)) := by
 cases v with
 | tmp t =>
   simp only [lp] at aC
   split at aC
   ·rename_i aG
    have iM : (∀ vs, s t ≠ .tuple vs) ∧ d = s t := by
     cases R : s t <;> rw [R] at aC <;> simp only at aC <;> first
      | (cases aC; done)
      | (simp only [Option.some.injEq] at aC; exact ⟨(fun _ h => by cases h), aC.symm⟩)
    obtain ⟨iM, rfl⟩ := iM
    obtain ⟨g1, g2⟩ := (ar.bE aG).1 (h.cl t)
    exact ⟨_, by simp [qw], aG, iM, g1, g2⟩
   ·cases aC
 | cell a T =>
   simp only [lp] at aC
   split at aC
   ·rename_i e R
    split at aC
    ·rename_i EO
     obtain ⟨e2, EP⟩ := EO
     simp only [Option.some.injEq] at aC; subst aC
     have fL := h.cl a
     rw [R] at fL
     obtain ⟨g1, g2⟩ := (ar.bE (d := .bb e) rfl).1 fL
     rw [eb g1, ai] at g2
     obtain ⟨b, cur, ty, fr, az, bn, bs, cT, cm, c8, c4, fq⟩ := g2
     simp only [List.cons.injEq, and_true] at bn
     have gi : e0 w b 0 cur.toList := by
      have := n1 cT cur.size
      rwa [List.take_of_length_le (by simp)] at this
     obtain ⟨x, et, ck, hI⟩ := rH (C := C) aM gi c8 e2
     refine ⟨x, ?_, EP, ?_, hI, ?_⟩
     ·simp only [qw]
      rw [bn]
      simpa [asAddr] using et
     ·intro vs eE; subst eE
      unfold fits at e2
      split at e2 <;> simp_all
     ·rw [ck]; exact ai.mono (fun _ h => h) _ _ _ _ c4 c8
    ·cases aC
   ·cases aC
theorem ER (aM : C.c3) (h : ba w0 F0 X F S s (fun t => tmps.getD t undef) w) : ∀ (dB : List ResultVar) (ds : List j), dB.map (lp C s) = ds.map some → (dB.map f_).Nodup →
  ∃ xs, (dB.mapM (qw tmps)).run C.P w = .ok xs w ∧ xs.length = ds.length ∧ aH w F ds (xs.flatMap fg) (fun b => ∃ t ∈ dB.map f_, S t b) ∧
    ∀ (k : Nat) (d : j) (x : Value), ds[k]? = some d → xs[k]? = some x → cA d x ∧ (∀ vs, d ≠ .tuple vs) ∧ (fg x).length = d.wd ∧ br x = fg x ∧ d.tree = true := by
 intro dB
 induction dB with
 | nil =>
   intro ds he _
   have : ds = [] := by simpa using he.symm
   subst this
   exact ⟨[], by simp, rfl, by simp only [List.flatMap_nil]; rw [aH], fun k d x ab => by simp at ab⟩
 | cons v dB ih =>
   intro ds he oD
   cases ds with
   | nil => simp at he
   | cons d ds =>
     simp only [List.map_cons, List.cons.injEq] at he
     simp only [List.map_cons, List.nodup_cons] at oD
     obtain ⟨x, et, rt, ck, hI, gk⟩ := EN aM h he.1
     obtain ⟨xs, fp, eN, gz, fZ⟩ := ih ds he.2 oD.2
     obtain ⟨aE, aI⟩ := yy ck hI
     refine ⟨x :: xs, by simp [List.mapM_cons, et, fp], by simp [eN], ?_, ?_⟩
     ·simp only [List.flatMap_cons]
      rw [aH]
      rw [aE] at gk
      refine ⟨fg x, xs.flatMap fg, S (f_ v), fun b => ∃ t ∈ dB.map f_, S t b, rfl, gk, gz, fun b J => ⟨f_ v, by simp, J⟩, ?_, ?_⟩
      ·rintro b ⟨t, aG, J⟩; exact ⟨t, by simp [aG], J⟩
      ·rintro b J ⟨t, aG, h2⟩
       have : t ≠ f_ v := fun e => oD.1 (e ▸ aG)
       exact h.dt t (f_ v) b this h2 J
     ·intro k aS bW ab an
      cases k with
      | zero =>
        simp at ab an; subst ab an
        refine ⟨hI, ck, ?_, aE, rt⟩
        rw [← aE]; exact ai.length _ _ _ gk
      | succ k => exact fZ k aS bW (by simpa using ab) (by simpa using an)
theorem yz (aM : C.c3) {f : FuncId} {fn : Func} {c : Code} {fx : List Nat} {as outs : List j} {r : j} (bo : C.P.funcs[f]? = some fn) (J : fn.body = some c)
  (ie : (fn.name == "runtime.NumGoroutine") = false) (aO : as.length ≤ fn.ntmps)
  {w : World} {F X : Nat → Prop} {S : Nat → Nat → Prop} {vs : List Value} (hl : vs.length = as.length) (aD : ba w F X F S (dL as) (eQ vs) w)
  (uY : ∀ a, Rel w F X ⟨fn.ntmps, fx⟩ (eQ vs) (dL as) a w → (∀ t, a.tmps.getD t undef = eQ vs t) → c.wp C.P (oC w F X ⟨fn.ntmps, fx⟩ (eQ vs) (fun e s => (e = .normal ∨ e = .ret) ∧ dS (Ends C fx fn.results.toList r outs) s)) a w) :
  kf C.P f vs.toArray w fun v ao => ∃ aY az, ba w F X aY az (dL (r :: outs)) (eQ (v :: vs)) ao := by
 have iL : (vs.toArray ++ Array.replicate (fn.ntmps - vs.toArray.size) undef).size = fn.ntmps := by simp; omega
 have cN : (fun t => (vs.toArray ++ Array.replicate (fn.ntmps - vs.toArray.size) undef).getD t undef) = eQ vs := by
  funext t
  simp only [eQ, Array.getD_eq_getD_getElem?, List.getD_eq_getElem?_getD]
  by_cases aG : t < vs.length
  ·rw [Array.getElem?_append_left (by simpa using aG)]; simp
  ·rw [Array.getElem?_append_right (by simpa using aG)]
   rw [List.getElem?_eq_none (by omega)]
   simp only [Array.getElem?_replicate]
   split <;> rfl
 have lo : Rel w F X ⟨fn.ntmps, fx⟩ (eQ vs) (dL as) { tmps := vs.toArray ++ Array.replicate (fn.ntmps - vs.toArray.size) undef, defers := [] } w :=
  ⟨rfl, iL, fun i _ => congrFun cN i, F, S, by rw [cN]; exact aD⟩
 have uZ : fn.name ≠ "runtime.NumGoroutine" := by simpa using ie
 refine .inl ⟨by simp [callFunc, bo, uZ, J], calls_of_wp bo J (wp_mono (uY _ lo (congrFun cN)) ?_)⟩
 rintro e bK ao ⟨aj, ⟨he, ES⟩, ET⟩
 obtain ⟨aj, ⟨ds, fR, yA, oD, pM⟩, ab, cV, eR, aY, az, cO⟩ := ET.dS ES
 obtain ⟨xs, fp, eN, gz, fZ⟩ := ER aM cO _ ds fR oD
 have EU : (results fn bK.tmps) = (do let vs ← fn.results.mapM (qw bK.tmps); pure (if h : vs.size = 1 then vs[0] else .tuple vs)) := by
  unfold results
  congr 1
 have m1 : (results fn bK.tmps).run C.P ao = .ok (if h : xs.toArray.size = 1 then xs.toArray[0] else .tuple xs.toArray) ao := by
  rw [EU, Array.mapM_eq_mapM_toList]
  simp [fp]
 have ns : (r.tree = true ∧ cA r (if h : xs.toArray.size = 1 then xs.toArray[0] else .tuple xs.toArray) ∧
   ai ao aY r (br (if h : xs.toArray.size = 1 then xs.toArray[0] else .tuple xs.toArray)) (fun b => ∃ t ∈ fn.results.toList.map f_, az t b)) := by
  by_cases U : ∃ d, ds = [d]
  ·obtain ⟨d, rfl⟩ := U
   obtain ⟨x, rfl⟩ : ∃ x, xs = [x] := by
    cases xs with
    | nil => simp at eN
    | cons x xs => cases xs with
      | nil => exact ⟨x, rfl⟩
      | cons y bT => simp at eN
   obtain ⟨bn, bs, cT, cm, c8⟩ := fZ 0 d x rfl rfl
   have EV : d = r := yA.symm
   subst EV
   simp only [List.flatMap_cons, List.flatMap_nil, List.append_nil] at gz
   rw [aH] at gz
   obtain ⟨bA, bG, bf, cj, aE, aI, bg, bX, b0, bh⟩ := gz
   rw [aH] at bg; subst bg
   simp only [List.append_nil] at aE; subst aE
   have an : (if h : ([x] : List Value).toArray.size = 1 then ([x] : List Value).toArray[0] else .tuple ([x] : List Value).toArray) = x := by simp
   rw [an, cm]
   exact ⟨c8, bn, ai.mono (fun _ h => h) _ _ _ _ bX aI⟩
  ·have EW : r = .tuple ds := by
    rw [yA]
    cases ds with
    | nil => rfl
    | cons d ds => cases ds with
      | nil => exact (U ⟨d, rfl⟩).elim
      | cons e ds => rfl
   have an : (if h : xs.toArray.size = 1 then xs.toArray[0] else Value.tuple xs.toArray) = .tuple xs.toArray := by
    rw [dif_neg]
    intro cV
    have : ds.length = 1 := by rw [← eN]; simpa using cV
    obtain ⟨d, ab⟩ := List.length_eq_one_iff.1 this
    exact U ⟨d, ab⟩
   rw [an, EW]
   refine ⟨rfl, ⟨xs.toArray, rfl, by simpa using eN, fun k d x ab an => ?_⟩, ?_⟩
   ·obtain ⟨bn, bs, cT, cm, _⟩ := fZ k d x ab (by simpa using an)
    exact ⟨(yy bs bn).2, bs, cT⟩
   ·rw [ai]
    simpa [br] using gz
 have post : ∀ (v : Value), (r.tree = true ∧ cA r v ∧ ai ao aY r (br v) (fun b => ∃ t ∈ fn.results.toList.map f_, az t b)) → ∃ ow bf, ba w F X ow bf (dL (r :: outs)) (eQ (v :: vs)) ao := by
  rintro v ⟨v1, v2, v3⟩
  have u0 : ∀ i, (outs.getD i .hole).dK = true → outs.getD i .hole = aj i ∧ i ∈ fx ∧ i ∉ fn.results.toList.map f_ := by
   intro i ax
   cases bq : outs[i]? with
   | none => simp [List.getD, bq, j.dK] at ax
   | some o =>
     have e : outs.getD i .hole = o := by simp [List.getD, bq]
     rw [e] at ax ⊢
     rcases pM i o bq with h | h
     ·subst h; simp [j.dK] at ax
     ·exact ⟨h.1, h.2.2⟩
  refine ⟨aY, fun t b => match t with | 0 => ∃ t ∈ fn.results.toList.map f_, az t b | i + 1 => (outs.getD i .hole).dK = true ∧ az i b, cO.eF, cO.eW, cO.dg, ?_, ?_, ?_, ?_, ?_, cO.old, cO.size, cO.os, cO.tape, cO.output⟩
  ·intro t b J
   cases t with
   | zero => obtain ⟨t, _, J⟩ := J; exact cO.cZ t b J
   | succ i => exact cO.cZ i b J.2
  ·intro t b J
   cases t with
   | zero => obtain ⟨t, _, J⟩ := J; exact cO.dz t b J
   | succ i => exact cO.dz i b J.2
  ·intro t u b cu J hu
   cases t with
   | zero =>
     obtain ⟨t, aG, J⟩ := J
     cases u with
     | zero => exact cu rfl
     | succ ay =>
       refine cO.dt t ay b (fun e => ?_) J hu.2
       subst e; exact (u0 t hu.1).2.2 aG
   | succ i =>
     cases u with
     | zero =>
       obtain ⟨t, aG, hu⟩ := hu
       refine cO.dt t i b (fun e => ?_) hu J.2
       subst e; exact (u0 t J.1).2.2 aG
     | succ ay => exact cO.dt i ay b (by omega) J.2 hu.2
  ·intro t b J
   cases t with
   | zero => obtain ⟨t, _, J⟩ := J; exact cO.cq t b J
   | succ i => exact cO.cq i b J.2
  ·intro t
   cases t with
   | zero => exact (ar.bE v1).2 ⟨v2, v3⟩
   | succ i =>
     show ar ao aY (dL (r :: outs)) (eQ (v :: vs)) (outs.getD i .hole) (vs.getD i undef) (fun b => (outs.getD i .hole).dK = true ∧ az i b)
     cases ax : (outs.getD i .hole).dK with
     | false =>
       have : outs.getD i .hole = .hole := by
        cases bq : outs[i]? with
        | none => simp [List.getD, bq]
        | some o =>
          have e : outs.getD i .hole = o := by simp [List.getD, bq]
          rw [e] at ax ⊢
          rcases pM i o bq with h | h
          ·exact h
          ·rw [h.2.1] at ax; cases ax
       rw [this, ar]; trivial
     | true =>
       obtain ⟨i_, ke, r0⟩ := u0 i ax
       have aG := (ma ax).2.1
       have fL := cO.cl i
       rw [← i_] at fL
       obtain ⟨g1, g2⟩ := (ar.bE aG).1 fL
       have aC : bK.tmps.getD i undef = vs.getD i undef := eR i ke
       rw [aC] at g1 g2
       exact (ar.bE aG).2 ⟨g1, ai.mono (fun _ h => h) _ _ _ _ (fun b J => ⟨rfl, J⟩) g2⟩
 rcases he with rfl | rfl
 ·exact ⟨ab, _, m1, _, rfl, post _ ns⟩
 ·exact ⟨ab, _, m1, _, rfl, post _ ns⟩
theorem b5.of_wp (aM : C.c3) {f : FuncId} {fn : Func} {c : Code} {dd : ae} {fx : List Nat} {as outs : List j} {r : j} (bo : C.P.funcs[f]? = some fn) (J : fn.body = some c)
  (ie : (fn.name == "runtime.NumGoroutine") = false) (R : cC ⟨fn.ntmps, fx⟩ c = some dd.strip) (aO : as.length ≤ fn.ntmps)
  (h : cg C dd (fun e s => (e = .normal ∨ e = .ret) ∧ dS (Ends C fx fn.results.toList r outs) s) (dL as)) (ak : dd.plain = true := by kernel_rfl) : b5 C f as r outs :=
 fun w F X S vs hl aD => yz aM bo J ie aO hl aD fun a lo _ => EM aM c (by rw [ae.yn]; exact R) (ae.yo dd (ae.Ez dd ak)) (yu dd h) lo
end
def num : Nat → List j → List (Nat × j)
 | _, [] => []
 | k, a :: as => (k, a) :: num (k + 1) as
theorem EX : ∀ (as : List j) (k t : Nat), I (num k as) (k + t) = as.getD t .hole := by
 intro as
 induction as with
 | nil => intro k t; simp [num, I]
 | cons a as ih =>
   intro k t
   cases t with
   | zero => simp [num, I]
   | succ t =>
     have := ih (k + 1) t
     simp only [num, I]
     rw [if_neg (by omega)]
     rw [show k + (t + 1) = k + 1 + t by omega, this]
     simp
theorem yB (as : List j) : dL as = I (num 0 as) := by
 funext t
 have := EX as 0 t
 rw [Nat.zero_add] at this
 rw [this]; rfl
theorem gU (l : List (Nat × j)) (t : Nat) (d : j) : ca (I l) t d = I ((t, d) :: l) := by
 funext u; simp only [ca, I]
def jP (t : Nat) : List (Nat × j) → List (Nat × j)
 | [] => []
 | (u, d) :: l => (u, bI t d) :: jP t l
def nt (t : Nat) : List (Nat × j) → List (Nat × j)
 | [] => []
 | (u, d) :: l => (u, bk t d) :: nt t l
theorem oE (t : Nat) : ∀ l : List (Nat × j), hE t (I l) = I (jP t l) := by
 intro l
 funext u
 induction l with
 | nil => rfl
 | cons p l ih =>
   obtain ⟨v, d⟩ := p
   simp only [hE, I, jP] at ih ⊢
   split
   ·rfl
   ·exact ih
theorem EY (t : Nat) : ∀ l : List (Nat × j), fw t (I l) = I (nt t l) := by
 intro l
 funext u
 induction l with
 | nil => rfl
 | cons p l ih =>
   obtain ⟨v, d⟩ := p
   simp only [fw, I, nt] at ih ⊢
   split
   ·rfl
   ·exact ih
def fT (k : List Nat) (s : ad) : List (Nat × j) := k.map fun t => (t, s t)
section
variable {C : bp} {l : List (Nat × j)}
def dH.nu : dH → Bool
 | .call _ _ => true
 | .cd _ => false
 | .ew _ => false
 | .pick _ _ _ => false
 | .eH _ => false
 | .du _ _ => false
 | .cI _ _ => false
 | .cM _ _ _ => false
 | .cL _ _ => false
 | .dR _ _ _ => false
 | .dU _ => false
 | .bO _ _ _ _ => false
 | .un _ _ => false
 | .dv _ _ _ => false
 | .gF _ _ => false
 | .e6 _ _ _ => false
 | .cU _ _ _ _ => false
 | .dn _ _ _ => false
 | .dA _ _ _ => false
 | .idx _ _ _ => false
 | .ex _ _ => false
 | .h6 _ _ _ => false
 | .len _ _ => false
 | .app _ _ _ _ => false
 | .shr _ => true
 | .jF _ _ _ _ => false
 | .cap _ _ => false
 | .kK _ _ _ => false
 | .bad => false
 | .iJ _ _ _ _ => true
 | .iK _ _ _ => true
 | .hj _ _ => false
 | .l7 _ => false
 | .lj _ => false
variable {Q : Exit → ad → Prop}
def j.yC : j → Bool
 | .tuple _ => true
 | _ => false
theorem Ends.one {fx : List Nat} {t : Nat} {r : j} {s : ad} (U : s t = r) (aa : (r.tree && !r.yC) = true) : Ends C fx [.tmp t] r [] s := by
 simp only [Bool.and_eq_true, Bool.not_eq_true'] at aa
 obtain ⟨aa, r_⟩ := aa
 have au : ∀ vs, r ≠ .tuple vs := fun vs e => by subst e; simp [j.yC] at r_
 refine ⟨[r], ?_, rfl, by simp, fun i o h => by simp at h⟩
 have : lp C s (.tmp t) = some r := by
  simp only [lp, U, aa, if_true]
  try (cases r <;> first | rfl | exact (au _ rfl).elim)
 simp only [List.map_cons, List.map_nil, this]
end
section
variable {C : bp} {l : List (Nat × j)} {Q : Exit → ad → Prop}
theorem b5.outs {f : FuncId} {as : List j} {r : j} {i_ ke : List j} (h : b5 C f as r i_) (he : dL i_ = dL ke) : b5 C f as r ke := by
 intro w F X S vs hl aD
 refine kf.mono (h w F X S vs hl aD) ?_
 rintro v ao ⟨aY, az, aX⟩
 refine ⟨aY, az, ?_⟩
 have : dL (r :: ke) = dL (r :: i_) := by
  funext t
  cases t with
  | zero => rfl
  | succ t => exact (congrFun he t).symm
 rw [this]; exact aX
def ig : List j → List j → List bH
 | a :: as, d :: ds => ⟨a, false, d, .hole⟩ :: ig as ds
 | _, _ => []
theorem EZ {s : ad} : ∀ (as ds : List j), views s as = some ds → (ig as ds).map (·.a) = as ∧ (ig as ds).map (·.d) = ds ∧ (∀ p ∈ ig as ds, p.ok s ∧ p.g = false ∧ p.o = .hole ∧ p.a ∈ as) ∧ fA (ig as ds) = true ∧
  dL ((ig as ds).map (·.o)) = dL [] ∧ (∀ lq, dc lq (ig as ds) = lq) ∧ (∀ lq, ft lq (ig as ds) = lq) := by
 intro as
 induction as with
 | nil =>
   intro ds h
   simp only [views, Option.some.injEq] at h; subst h
   exact ⟨rfl, rfl, (fun p ak => by cases ak), rfl, rfl, fun _ => rfl, fun _ => rfl⟩
 | cons a as ih =>
   intro ds h
   simp only [views] at h
   split at h
   ·rename_i d E0 U aa
    simp only [Option.some.injEq] at h; subst h
    obtain ⟨aE, aI, bg, bX, b0, bh, bc⟩ := ih E0 aa
    refine ⟨by simp only [ig, List.map_cons, aE], by simp only [ig, List.map_cons, aI], ?_, ?_, ?_, ?_, ?_⟩
    ·intro p ak
     simp only [ig, List.mem_cons] at ak
     rcases ak with rfl | ak
     ·exact ⟨by simp only [bH.ok]; exact U, rfl, rfl, by simp⟩
     ·obtain ⟨g1, g2, g3, g4⟩ := bg p ak
      exact ⟨g1, g2, g3, by simp [g4]⟩
    ·simp only [ig, fA, bX, Bool.and_true, List.all_eq_true]
     intro p ak
     simp [(bg p ak).2.1]
    ·funext t
     cases t with
     | zero => rfl
     | succ t => exact (congrFun b0 t).trans (by simp [dL])
    ·intro lq; exact bh lq
    ·intro lq; exact bc lq
   ·cases h
end
structure de where
 aU : List Nat
 H : List Nat
 T : List Nat
 c : Bool
mutual
def j.clean : j → Bool
 | .hole => false
 | .fn _ cap => j.oF cap
 | _ => true
def j.oF : List j → Bool
 | [] => true
 | d :: ds => d.clean && j.oF ds
end
mutual
theorem yD {x : Nat} : ∀ a : j, (bk x a).clean = true → bk x a = a
 | .h y q, h => by
   simp only [bk] at h ⊢
   split
   ·rename_i e; rw [if_pos e] at h
    split
    ·rfl
    ·rename_i eE; rw [if_neg eE] at h; simp [j.clean] at h
   ·rfl
 | .ak y q, h => by
   simp only [bk] at h ⊢
   split
   ·rename_i e; rw [if_pos e] at h; simp [j.clean] at h
   ·rfl
 | .J y q, h => rfl
 | .fn f cap, h => by simp only [bk, j.clean] at h ⊢; rw [yE cap h]
 | .hole, _ => rfl
 | .bool _, _ => rfl
 | .c1, _ => rfl
 | .int _ _, _ => rfl
 | .str _, _ => rfl
 | .b_, _ => rfl
 | .bu, _ => rfl
 | .slice _, _ => rfl
 | .aJ _ _, _ => rfl
 | .ref _, _ => rfl
 | .bb _, _ => rfl
 | .agg _, _ => rfl
 | .tuple _, _ => rfl
 | .ch _, _ => rfl
theorem yE {x : Nat} : ∀ ds : List j, j.oF (fl x ds) = true → fl x ds = ds
 | [], _ => rfl
 | d :: ds, h => by
   simp only [fl, j.oF, Bool.and_eq_true] at h ⊢
   rw [yD d h.1, yE ds h.2]
end
mutual
theorem yF {x : Nat} : ∀ a : j, (bI x a).clean = true → bI x a = a
 | .h y q, h => by
   simp only [bI] at h ⊢
   split
   ·rename_i e; rw [if_pos e] at h; simp [j.clean] at h
   ·rfl
 | .ak y q, h => by
   simp only [bI] at h ⊢
   split
   ·rename_i e; rw [if_pos e] at h; simp [j.clean] at h
   ·rfl
 | .J y q, h => by
   simp only [bI] at h ⊢
   split
   ·rename_i e; rw [if_pos e] at h; simp [j.clean] at h
   ·rfl
 | .fn f cap, h => by simp only [bI, j.clean] at h ⊢; rw [yG cap h]
 | .hole, _ => rfl
 | .bool _, _ => rfl
 | .c1, _ => rfl
 | .int _ _, _ => rfl
 | .str _, _ => rfl
 | .b_, _ => rfl
 | .bu, _ => rfl
 | .slice _, _ => rfl
 | .aJ _ _, _ => rfl
 | .ref _, _ => rfl
 | .bb _, _ => rfl
 | .agg _, _ => rfl
 | .tuple _, _ => rfl
 | .ch _, _ => rfl
theorem yG {x : Nat} : ∀ ds : List j, j.oF (fG x ds) = true → fG x ds = ds
 | [], _ => rfl
 | d :: ds, h => by
   simp only [fG, j.oF, Bool.and_eq_true] at h ⊢
   rw [yF d h.1, yG ds h.2]
end
theorem E1 {k : kM} {x : Nat} {a : j} (h : (k.app x a).clean = true) : k.app x a = a := by
 cases k with
 | no => rfl
 | bk => exact yD a h
 | bI => exact yF a h
theorem E2 : ∀ (ms : List dZ) (u : Nat) (a : j), (∀ m ∈ ms, m.x ≠ u) → (gl ms u a).clean = true → gl ms u a = a := by
 intro ms
 induction ms with
 | nil => intros; rfl
 | cons m ms ih =>
   intro u a an ag
   simp only [gl] at ag ⊢
   have e := ih u _ (fun fa nv => an fa (by simp [nv])) ag
   have hm : m.at u a = m.k.app m.x a := by
    simp only [dZ.at]; rw [if_neg (fun e => an m (by simp) e.symm)]
   rw [e, hm]
   rw [e, hm] at ag
   exact E1 ag
theorem E3 : ∀ (ms : List dZ) (u : Nat) (a : j), (∀ m ∈ ms, m.x ≠ u ∧ m.x ∉ a.R) → gl ms u a = a := by
 intro ms
 induction ms with
 | nil => intros; rfl
 | cons m ms ih =>
   intro u a an
   simp only [gl]
   have hm : m.at u a = a := by
    simp only [dZ.at]; rw [if_neg (fun e => (an m (by simp)).1 e.symm)]
    exact qe (.inr (an m (by simp)).2)
   rw [hm]
   exact ih u a fun fa nv => an fa (by simp [nv])
theorem E4 (m : dZ) : ∀ (ms : List dZ) (u : Nat) (a : j), (∀ fa ∈ ms, fa.x ≠ m.x ∧ fa.x ∉ m.d.R ∧ m.x ∉ fa.d.R) → gl ms u (m.at u a) = m.at u (gl ms u a) := by
 intro ms
 induction ms with
 | nil => intros; rfl
 | cons n ms ih =>
   intro u a an
   simp only [gl]
   have aO := an n (by simp)
   have ag : n.at u (m.at u a) = m.at u (n.at u a) := by
    simp only [dZ.at]
    by_cases aE : u = n.x
    ·subst aE
     rw [if_pos rfl, if_neg aO.1, if_pos rfl]
     exact (qe (.inr aO.2.2)).symm
    ·rw [if_neg aE]
     by_cases aI : u = m.x
     ·subst aI
      rw [if_pos rfl, if_pos rfl]
      exact qe (.inr aO.2.1)
     ·rw [if_neg aI, if_neg aE, if_neg aI]
      exact Dk _ _ _ _ _
   rw [ag]
   exact ih u _ fun fa nv => an fa (by simp [nv])
theorem E5 : ∀ (ms gR : List dZ) (s : ad), (∀ m ∈ ms, ∀ n ∈ gR, n.x ≠ m.x ∧ n.x ∉ m.d.R ∧ m.x ∉ n.d.R) → b8 gR (b8 ms s) = b8 ms (b8 gR s) := by
 intro ms
 induction ms with
 | nil => intros; rfl
 | cons m ms ih =>
   intro gR s h
   have e : ∀ s, b8 (m :: ms) s = b8 ms (b8 [m] s) := fun s => hL [m] ms s
   rw [e, e, ih gR _ (fun fa nv => h fa (by simp [nv]))]
   congr 1
   funext u
   simp only [b8, gl]
   exact E4 m gR u _ (h m (by simp))
def u1 (C : bp) (s : ad) (f : aq) (args : List aq) (K : List Nat → j → ad → Prop) : Prop :=
 ∃ (g : FuncId) (caps : List j) (ps : List bH) (r : j), aw s f = .fn g caps ∧ j.dr caps = true ∧ ps.map (·.a) = args.map (aw s) ++ caps ∧ (∀ p ∈ ps, p.ok s) ∧ fA ps = true ∧
   b5 C g (ps.map (·.d)) r (ps.map (·.o)) ∧ r.res = true ∧ (gS ps = true → r.c6 = true ∧ ∀ p ∈ ps, p.o.c6 = true) ∧ K (j.cJ ((ps.filter (·.g)).map (·.a))) r (ft (dc s ps) ps)
def kl (C : bp) (s : ad) (aV : dH) (K : List Nat → j → ad → Prop) : Prop :=
 match aV with
 | .call f args => ∃ (g : FuncId) (caps : List j) (ps : List bH) (r : j), aw s f = .fn g caps ∧ j.dr caps = true ∧ ps.map (·.a) = args.map (aw s) ++ caps ∧ (∀ p ∈ ps, p.ok s) ∧ fA ps = true ∧
   b5 C g (ps.map (·.d)) r (ps.map (·.o)) ∧ r.res = true ∧ (gS ps = true → r.c6 = true ∧ ∀ p ∈ ps, p.o.c6 = true) ∧ K (j.cJ ((ps.filter (·.g)).map (·.a))) r (ft (dc s ps) ps)
 | .shr aV => ∃ av s1, aW C s aV = some (av, s1) ∧ av.tree = true ∧ (∀ vs, av ≠ .tuple vs) ∧ K (b4 s aV) av.share s1
 | .iJ f args u x => s u = .h x [] ∧ (s x).own = true ∧ u1 C s f args fun bM av s1 => s1 u = .hole ∧ (s1 x).own = true ∧ K (u :: bM) av (ca s1 u (.h x []))
 | .iK f args us => kQ s (ic s us) = true ∧ u1 C s f args fun bM av s1 => kQ s1 (ic s us) = true ∧ K (us ++ bM) av (ln s1 (ic s us))
 | aV => ∃ av s1, aW C s aV = some (av, s1) ∧ K (b4 s aV) av s1
def fC (s : ad) (aU : List Nat) (dst : Option Nat) (bM : List Nat) (av : j) : de :=
 ⟨aU, aU.flatMap (fun u => (s u).R) ++ av.R, dst.toList ++ bM, aU.all fun u => (s u).clean⟩
def jQ (C : bp) (s : ad) (o : bm) (K : de → ad → Prop) : Prop :=
 match o.guard with
 | none => kl C s o.aV fun bM av s1 => K (fC s (use s o.aV) o.dst bM av) (fin s1 o.dst av)
 | some (t, b) => match s t with
   | .bool dk => if dk = b then kl C s o.aV (fun bM av s1 => K (fC s (t :: use s o.aV) o.dst bM av) (fin s1 o.dst av)) else K (fC s [t] o.dst [] (.tuple [])) (fin s o.dst (.tuple []))
   | .tuple [] => K (fC s [t] o.dst [] (.tuple [])) (fin s o.dst (.tuple []))
   | _ => False
def lr : Option (List de) → de → Option (List de)
 | none, _ => none
 | some l, f => some (f :: l)
def bF (C : bp) (s : ad) : List bm → Option (List de) → (Option (List de) → ad → Prop) → Prop
 | [], acc, K => K acc s
 | o :: os, acc, K => jQ C s o fun f s1 => bF C s1 os (lr acc f) K
section
variable {C : bp}
theorem yH {s : ad} {aV : dH} {K : List Nat → j → ad → Prop} {b6 : j → ad → Prop} (ah : ∀ bM av s, K bM av s → b6 av s) (h : kl C s aV K) : jN C s aV b6 := by
 cases aV with
 | call f args =>
   obtain ⟨g, caps, ps, r, U, dV, aa, au, aK, a1, bN, bS, df⟩ := h
   exact ⟨g, caps, ps, r, U, dV, aa, au, aK, a1, bN, bS, ah _ _ _ df⟩
 | iJ f args u x =>
   obtain ⟨bn, bs, g, caps, ps, r, U, dV, aa, au, aK, a1, bN, bS, df, e1, eK⟩ := h
   exact ⟨bn, bs, g, caps, ps, r, U, dV, aa, au, aK, a1, bN, bS, df, e1, ah _ _ _ eK⟩
 | iK f args us =>
   obtain ⟨bs, g, caps, ps, r, U, dV, aa, au, aK, a1, bN, bS, df, e1⟩ := h
   exact ⟨bs, g, caps, ps, r, U, dV, aa, au, aK, a1, bN, bS, df, ah _ _ _ e1⟩
 | shr aV =>
   obtain ⟨av, s1, U, aa, au, aK⟩ := h
   exact ⟨av, s1, U, aa, au, ah _ _ _ aK⟩
 | _ =>
   obtain ⟨av, s1, U, aa⟩ := h
   exact ⟨av, s1, U, ah _ _ _ aa⟩
theorem E6 {s : ad} {o : bm} {K : de → ad → Prop} {b6 : ad → Prop} (ah : ∀ f s, K f s → b6 s) (h : jQ C s o K) : hM C s o b6 := by
 unfold jQ at h
 unfold hM
 split
 ·rename_i aT; rw [aT] at h; exact yH (fun _ _ _ => ah _ _) h
 ·rename_i t b aT
  rw [aT] at h
  simp only at h
  split
  ·rename_i dk R
   rw [R] at h
   simp only at h
   split
   ·rename_i J; rw [if_pos J] at h; exact yH (fun _ _ _ => ah _ _) h
   ·rename_i J; rw [if_neg J] at h; exact ah _ _ h
  ·rename_i R; rw [R] at h; exact ah _ _ h
  ·rename_i U aa
   split at h
   ·exact U _ (by assumption)
   ·exact aa (by assumption)
   ·exact h
theorem sa {K : ad → Prop} : ∀ {ros : List bm} {s : ad} {acc : Option (List de)} {b6 : Option (List de) → ad → Prop}, (∀ a s, b6 a s → K s) → bF C s ros acc b6 → ht C s ros K := by
 intro ros
 induction ros with
 | nil => intro s acc b6 ah h; exact ah _ _ h
 | cons o ros ih => intro s acc b6 ah h; exact E6 (fun f s h => ih ah h) h
theorem yI {q : List Nat} {a d : j} (h : j.sub q a = some d) (bR : q ≠ [] ∨ d.R = []) : a.R = [] := by
 cases q with
 | nil =>
   simp only [j.sub, Option.some.injEq] at h; subst h
   exact bR.resolve_left (fun e => e rfl)
 | cons k q => cases a <;> first | rfl | (simp [j.sub] at h)
def sb (s : ad) (p : bH) (e : j → Prop) : Prop := p.g = true → ∃ x q d, p.a = .h x q ∧ j.sub q (s x) = some d ∧ e d ∧ (p.o = .hole ∨ p.o.dK = true)
theorem yJ {d : j} (h : d.dK = true) : d.R = [] := x4 (ma h).2.1
theorem yK {d : j} (h : d.dK = true) : d.bV.R = [] := by cases d <;> first | rfl | (simp [j.dK] at h)
theorem yL {p : bH} {ps : List bH} (h : fA (p :: ps) = true) : fA ps = true ∧ ∀ bC ∈ ps, (p.g = true ∨ bC.g = true) → ∀ u ∈ p.a.R, u ∉ bC.a.R := by
 simp only [fA, Bool.and_eq_true, List.all_eq_true, Bool.or_eq_true, Bool.not_eq_true'] at h
 refine ⟨h.2, fun bC cQ aT u hu => ?_⟩
 rcases h.1 bC cQ with e | e
 ·rcases aT with aT | aT <;> simp [aT] at e
 ·simpa using e u hu
def mj (ps : List bH) : List Nat := j.cJ ((ps.filter (·.g)).map (·.a))
theorem oG (p : bH) (ps : List bH) : (∀ u ∈ mj ps, u ∈ mj (p :: ps)) ∧ (p.g = true → ∀ u ∈ p.a.R, u ∈ mj (p :: ps)) := by
 unfold mj
 by_cases aT : p.g = true
 ·simp only [List.filter_cons, aT, if_true, List.map_cons, j.cJ, List.mem_append]
  exact ⟨fun u h => .inr h, fun _ u h => .inl h⟩
 ·simp only [List.filter_cons, aT]
  exact ⟨fun u h => h, fun h => by simp at h⟩
theorem E7 {p : bH} {ps : List bH} (h : p ∈ ps) : ∀ u ∈ p.a.R, u ∈ j.cJ (ps.map (·.a)) := by
 induction ps with
 | nil => cases h
 | cons bC ps ih =>
   intro u hu
   simp only [List.map_cons, j.cJ, List.mem_append]
   rcases List.mem_cons.1 h with rfl | h
   ·exact .inl hu
   ·exact .inr (ih h u hu)
theorem E8 : ∀ (ps : List bH) (s : ad), (∀ p ∈ ps, sb s p (fun d => d = p.d ∧ p.d.dK = true)) → fA ps = true →
  (∃ ms : List dZ, (∀ m ∈ ms, m.x ∈ mj ps ∧ m.d.R = []) ∧ ∀ aj, cf (j.cJ (ps.map (·.a))) aj s → dc aj ps = b8 ms aj) ∧ ∀ p ∈ ps, sb (dc s ps) p (fun d => d = p.d.bV ∧ p.d.dK = true) := by
 intro ps
 induction ps with
 | nil => intro s _ _; exact ⟨⟨[], by simp, fun aj _ => rfl⟩, fun p ak => by cases ak⟩
 | cons p ps ih =>
   intro s aT gQ
   obtain ⟨kd, jK⟩ := yL gQ
   by_cases ij : p.g = true
   ·obtain ⟨x, q, d, bB, R, ⟨rfl, ab⟩, bq⟩ := aT p (by simp) ij
    have gL : (j.put q p.d.bV (s x)).R = [] := qf q _ _ _ R (.inl (ma ab).1) fun _ => yK ab
    have qx : ∀ aj : ad, aj x = s x → p.take aj = b8 [⟨.bk, x, j.put q p.d.bV (s x)⟩] aj := by
     intro aj e
     simp only [bH.take, ij, if_true, bB, e, qc]
    have cu : ∀ bC ∈ ps, ∀ bW fP, bC.a = .h bW fP → bW ≠ x := by
     intro bC cQ bW fP e eE
     have := jK bC cQ (.inl ij) x (by simp [bB, j.R])
     rw [e, eE] at this; simp [j.R] at this
    have mb : ∀ bW, bW ≠ x → (s bW).R = [] → b8 [⟨.bk, x, j.put q p.d.bV (s x)⟩] s bW = s bW := by
     intro bW n_ bz
     simp only [b8, gl, dZ.at]
     rw [if_neg n_]
     exact qe (.inr (by rw [bz]; simp))
    obtain ⟨⟨ms, dY, e3⟩, fQ⟩ := ih (b8 [⟨.bk, x, j.put q p.d.bV (s x)⟩] s) (fun bC cQ u2 => by
     obtain ⟨bW, fP, aS, nn, en, ep, qy⟩ := aT bC (by simp [cQ]) u2
     refine ⟨bW, fP, aS, nn, ?_, ep, qy⟩
     rw [mb bW (cu bC cQ bW fP nn) (yI en (.inr (by rw [ep.1]; exact yJ ep.2)))]; exact en) kd
    refine ⟨⟨[⟨.bk, x, j.put q p.d.bV (s x)⟩] ++ ms, ?_, ?_⟩, ?_⟩
    ·intro m hm
     rcases List.mem_append.1 hm with hm | hm
     ·simp only [List.mem_singleton] at hm; subst hm
      exact ⟨(oG p ps).2 ij x (by simp [bB, j.R]), gL⟩
     ·exact ⟨(oG p ps).1 _ (dY m hm).1, (dY m hm).2⟩
    ·intro aj en
     simp only [List.map_cons, j.cJ] at en
     have e : aj x = s x := en x (by simp [bB, j.R])
     rw [hL]
     show dc (p.take aj) ps = _
     rw [qx aj e]
     exact e3 _ (cf.b8 en.right _)
    ·have aE : dc s (p :: ps) = dc (b8 [⟨.bk, x, j.put q p.d.bV (s x)⟩] s) ps := by
      show dc (p.take s) ps = _
      rw [qx s rfl]
     rw [aE]
     intro bC cQ
     rcases List.mem_cons.1 cQ with rfl | cQ
     ·intro _
      refine ⟨x, q, bC.d.bV, bB, ?_, ⟨rfl, ab⟩, bq⟩
      have aC : b8 [⟨.bk, x, j.put q bC.d.bV (s x)⟩] s x = j.put q bC.d.bV (s x) := by
       simp only [b8, gl, dZ.at, if_true]
      rw [uA (by rw [aC]; exact gL) (fun E9 E_ Ot => ?_), aC]
      ·exact x1 q _ _ _ R
      ·exact jK E9 E_ (.inl ij) x (by simp [bB, j.R])
     ·exact fQ bC cQ
   ·have qx : ∀ aj : ad, p.take aj = aj := by intro aj; simp only [bH.take, ij]; rfl
    obtain ⟨⟨ms, dY, e3⟩, fQ⟩ := ih s (fun bC cQ => aT bC (by simp [cQ])) kd
    refine ⟨⟨ms, fun m hm => ⟨(oG p ps).1 _ (dY m hm).1, (dY m hm).2⟩, ?_⟩, ?_⟩
    ·intro aj en
     simp only [List.map_cons, j.cJ] at en
     show dc (p.take aj) ps = _
     rw [qx]; exact e3 aj en.right
    ·intro bC cQ
     have aE : dc s (p :: ps) = dc s ps := by show dc (p.take s) ps = _; rw [qx]
     rw [aE]
     rcases List.mem_cons.1 cQ with rfl | cQ
     ·intro h; exact (ij h).elim
     ·exact fQ bC cQ
theorem Fa : ∀ (ps : List bH) (s : ad), (∀ p ∈ ps, sb s p (fun d => d = p.d.bV ∧ p.d.dK = true)) → fA ps = true →
  (∃ ms : List dZ, (∀ m ∈ ms, m.x ∈ mj ps ∧ m.d.R = []) ∧ ∀ aj, cf (j.cJ (ps.map (·.a))) aj s → ft aj ps = b8 ms aj) := by
 intro ps
 induction ps with
 | nil => intro s _ _; exact ⟨[], by simp, fun aj _ => rfl⟩
 | cons p ps ih =>
   intro s aT gQ
   obtain ⟨kd, jK⟩ := yL gQ
   by_cases ij : p.g = true ∧ p.o ≠ .hole
   ·obtain ⟨ij, Fb⟩ := ij
    obtain ⟨x, q, d, bB, R, ⟨rfl, ab⟩, bq⟩ := aT p (by simp) ij
    have bq : p.o.dK = true := bq.resolve_left Fb
    have gL : (j.put q p.o (s x)).R = [] := by
     cases q with
     | nil => simp only [j.put]; exact yJ bq
     | cons k q => exact qf _ _ _ _ R (.inr (by simp)) (by simp)
    have u3 : ∀ aj : ad, aj x = s x → p.fs aj = b8 [⟨.bI, x, j.put q p.o (s x)⟩] aj := by
     intro aj e
     simp only [bH.fs, ij, if_true, bB]
     rw [e, xJ]
    have cu : ∀ bC ∈ ps, ∀ bW fP, bC.a = .h bW fP → bW ≠ x := by
     intro bC cQ bW fP e eE
     have := jK bC cQ (.inl ij) x (by simp [bB, j.R])
     rw [e, eE] at this; simp [j.R] at this
    obtain ⟨ms, dY, e3⟩ := ih (b8 [⟨.bI, x, j.put q p.o (s x)⟩] s) (fun bC cQ u2 => by
     obtain ⟨bW, fP, aS, nn, en, ep, qy⟩ := aT bC (by simp [cQ]) u2
     refine ⟨bW, fP, aS, nn, ?_, ep, qy⟩
     have bz := yI en (.inr (by rw [ep.1]; exact yK ep.2))
     have mb : b8 [⟨.bI, x, j.put q p.o (s x)⟩] s bW = s bW := by
      simp only [b8, gl, dZ.at]
      rw [if_neg (cu bC cQ bW fP nn)]
      exact qe (.inr (by rw [bz]; simp))
     rw [mb]; exact en) kd
    refine ⟨[⟨.bI, x, j.put q p.o (s x)⟩] ++ ms, ?_, ?_⟩
    ·intro m hm
     rcases List.mem_append.1 hm with hm | hm
     ·simp only [List.mem_singleton] at hm; subst hm
      exact ⟨(oG p ps).2 ij x (by simp [bB, j.R]), gL⟩
     ·exact ⟨(oG p ps).1 _ (dY m hm).1, (dY m hm).2⟩
    ·intro aj en
     simp only [List.map_cons, j.cJ] at en
     have e : aj x = s x := en x (by simp [bB, j.R])
     rw [hL]
     show ft (p.fs aj) ps = _
     rw [u3 aj e]
     exact e3 _ (cf.b8 en.right _)
   ·have u3 : ∀ aj : ad, p.fs aj = aj := by
     intro aj
     unfold bH.fs
     split
     ·rename_i ed
      have : p.o = .hole := by
       by_cases h : p.o = .hole
       ·exact h
       ·exact (ij ⟨ed, h⟩).elim
      rw [this]
     ·rfl
    obtain ⟨ms, dY, e3⟩ := ih s (fun bC cQ => aT bC (by simp [cQ])) kd
    refine ⟨ms, fun m hm => ⟨(oG p ps).1 _ (dY m hm).1, (dY m hm).2⟩, ?_⟩
    intro aj en
    simp only [List.map_cons, j.cJ] at en
    show ft (p.fs aj) ps = _
    rw [u3]; exact e3 aj en.right
theorem Fe {s aj : ad} : ∀ (a : j) (d : j), cf a.R aj s → view s a = some d → view aj a = some d := by
 intro a d h
 have := uD (s := s) (aj := aj) a d
 intro aC
 cases a with
 | h x q => simp only [view] at aC ⊢; rw [h x (by simp [j.R])]; exact aC
 | ak x q => simp only [view] at aC ⊢; rw [h x (by simp [j.R])]; exact aC
 | fn f cap =>
   refine this (fun u hu _ => h u hu) aC
 | _ => exact aC
theorem Ff {p : bH} {s aj : ad} (h : cf p.a.R aj s) (d_ : p.ok s) : p.ok aj := by
 unfold bH.ok at d_ ⊢
 split
 ·rename_i aT
  rw [if_pos aT] at d_
  cases bB : p.a with
  | h x q =>
    rw [bB] at d_
    simp only at d_ ⊢
    rw [h x (by simp [bB, j.R])]; exact d_
  | _ => rw [bB] at d_; exact d_.elim
 ·rename_i aT
  rw [if_neg aT] at d_
  exact Fe _ _ h d_
def sc (C : bp) (o : bm) (s : ad) (gI : de) (ms : List dZ) : Prop :=
 (∀ aj, cf gI.aU aj s → ∀ K : ad → Prop, K (b8 ms aj) → hM C aj o K) ∧ (∀ m ∈ ms, m.x ∈ gI.T ∧ ∀ u ∈ m.d.R, u ∈ gI.H) ∧ (∀ u ∈ gI.aU, ∀ x ∈ (s u).R, x ∈ gI.H) ∧ (gI.c = true → ∀ u ∈ gI.aU, (s u).clean = true)
theorem yM (dst : Option Nat) (av : j) : ∃ ms : List dZ, (∀ m ∈ ms, m.x ∈ dst.toList ∧ m.d = av) ∧ ∀ s1 : ad, fin s1 dst av = b8 ms s1 := by
 cases dst with
 | none => exact ⟨[], by simp, fun s => rfl⟩
 | some t =>
   simp only [fin]
   by_cases h : av.plain = true
   ·exact ⟨[⟨.no, t, av⟩], by simp, fun s => by rw [if_pos h, ui]⟩
   ·exact ⟨[⟨.bI, t, av⟩], by simp, fun s => by rw [if_neg h, xJ]⟩
theorem sd {s : ad} {aU : List Nat} {dst : Option Nat} {bM : List Nat} {av : j} : (∀ u ∈ (fC s aU dst bM av).aU, ∀ x ∈ (s u).R, x ∈ (fC s aU dst bM av).H) ∧ ((fC s aU dst bM av).c = true → ∀ u ∈ (fC s aU dst bM av).aU, (s u).clean = true) := by
 refine ⟨fun u hu x an => ?_, fun ag => ?_⟩
 ·simp only [fC, List.mem_append, List.mem_flatMap]; exact .inl ⟨u, hu, an⟩
 ·simp only [fC, List.all_eq_true] at ag; exact ag
theorem u4 {s : ad} {f : aq} {args : List aq} {K : List Nat → j → ad → Prop} (h : u1 C s f args K) :
  ∃ bM av ms, K bM av (b8 ms s) ∧ (∀ m ∈ ms, m.x ∈ bM ∧ m.d.R = []) ∧ ∀ aj, cf (use s (.call f args)) aj s → ∀ b6 : j → ad → Prop, b6 av (b8 ms aj) → r4 C aj f args b6 := by
 obtain ⟨g, caps, ps, r, U, dV, aa, au, aK, a1, bN, bS, df⟩ := h
 have qz : ∀ p ∈ ps, sb s p (fun d => d = p.d ∧ p.d.dK = true) := by
  intro p ak aT
  have := au p ak
  simp only [bH.ok, aT, if_true] at this
  cases bB : p.a with
  | h x q => rw [bB] at this; exact ⟨x, q, p.d, rfl, this.1, ⟨rfl, this.2.1⟩, this.2.2.imp id fun h => h.1⟩
  | _ => rw [bB] at this; exact this.elim
 obtain ⟨⟨kc, a7, a2⟩, a3⟩ := E8 ps s qz aK
 obtain ⟨nm, h5, fK⟩ := Fa ps (dc s ps) a3 aK
 have kI : ∀ u ∈ j.cJ (ps.map (·.a)), u ∈ use s (.call f args) := by
  rw [aa]
  intro u hu
  simp only [use, List.mem_append]
  have key : ∀ (ev l2 : List j), u ∈ j.cJ (ev ++ l2) → u ∈ j.cJ ev ∨ u ∈ j.cJ l2 := by
   intro ev
   induction ev with
   | nil => intro l2 h; exact .inr h
   | cons a ev ih =>
     intro l2 h
     simp only [List.cons_append, j.cJ, List.mem_append] at h ⊢
     rcases h with h | h
     ·exact .inl (.inl h)
     ·exact (ih l2 h).imp .inr id
  rcases key _ _ hu with hu | hu
  ·exact .inr (aq.rY u hu)
  ·refine .inl (aq.nk u ?_)
   rw [U]; exact hu
 have eO : ft (dc s ps) ps = b8 (kc ++ nm) s := by
  rw [hL, ← a2 s (fun _ _ => rfl), fK _ (fun _ _ => rfl)]
 refine ⟨mj ps, r, kc ++ nm, by rw [← eO]; exact df, ?_, ?_⟩
 ·intro m hm
  rcases List.mem_append.1 hm with hm | hm
  ·exact a7 m hm
  ·exact h5 m hm
 ·intro aj R b6 ah
  have l8 : cf (j.cJ (ps.map (·.a))) aj s := R.sub kI
  have bo : cf (f.use s) aj s := by simp only [use] at R; exact R.left
  have an : cf (aq.jJ s args) aj s := by simp only [use] at R; exact R.right
  have aE : ft (dc aj ps) ps = b8 (kc ++ nm) aj := by
   rw [hL, ← a2 aj l8, fK]
   rw [a2 aj l8, a2 s (fun _ _ => rfl)]
   exact cf.b8 l8 _
  exact ⟨g, caps, ps, r, by rw [aq.dw bo]; exact U, dV, by rw [aq.uo an]; exact aa, fun p ak => Ff (l8.sub (E7 ak)) (au p ak), aK, a1, bN, bS, by rw [aE]; exact ah⟩
mutual
theorem yN {s aj : ad} : ∀ (d : j), cf d.R aj s → d.eJ aj = d.eJ s
 | .h x q, h => by simp only [j.eJ]; rw [h x (by simp [j.R])]
 | .J x q, h => by simp only [j.eJ]; rw [h x (by simp [j.R])]
 | .fn f cap, h => by simp only [j.eJ]; exact yO cap (by simpa only [j.R] using h)
 | .ak _ _, _ => by simp only [j.eJ]
 | .hole, _ => by simp only [j.eJ]
 | .bool _, _ => by simp only [j.eJ]
 | .c1, _ => by simp only [j.eJ]
 | .int _ _, _ => by simp only [j.eJ]
 | .str _, _ => by simp only [j.eJ]
 | .b_, _ => by simp only [j.eJ]
 | .bu, _ => by simp only [j.eJ]
 | .slice _, _ => by simp only [j.eJ]
 | .aJ _ _, _ => by simp only [j.eJ]
 | .ref _, _ => by simp only [j.eJ]
 | .bb _, _ => by simp only [j.eJ]
 | .agg _, _ => by simp only [j.eJ]
 | .tuple _, _ => by simp only [j.eJ]
 | .ch _, _ => by simp only [j.eJ]
theorem yO {s aj : ad} : ∀ (ds : List j), cf (j.cJ ds) aj s → j.me aj ds = j.me s ds
 | [], _ => rfl
 | d :: ds, h => by
   simp only [j.cJ] at h
   simp only [j.me]; rw [yN d h.left, yO ds h.right]
end
theorem u5 {s aj : ad} {us : List Nat} (h : cf (us.flatMap fun u => u :: (s u).R) aj s) : ic aj us = ic s us := by
 unfold ic
 refine List.map_congr_left fun u hu => ?_
 rw [h u (List.mem_flatMap.2 ⟨u, hu, by simp⟩)]
theorem u6 {s aj : ad} : ∀ (L : List (Nat × j)), (∀ p ∈ L, cf p.2.R aj s) → kQ aj L = kQ s L
 | [], _ => rfl
 | p :: L, h => by
   simp only [kQ]; rw [yN p.2 (h p (by simp)), u6 L (fun q bR => h q (by simp [bR]))]
theorem yP : ∀ (L : List (Nat × j)) (s : ad), ln s L = b8 (L.map fun p => ⟨.no, p.1, p.2⟩) s
 | [], s => rfl
 | p :: L, s => by
   simp only [ln, List.map_cons]
   rw [yP L, ui]
   exact (hL [⟨.no, p.1, p.2⟩] _ s).symm
theorem Fg {s : ad} {aV : dH} {K : List Nat → j → ad → Prop} (h : kl C s aV K) :
  ∃ bM av ms, K bM av (b8 ms s) ∧ (∀ m ∈ ms, m.x ∈ bM ∧ ∀ v ∈ m.d.R, ∃ u ∈ use s aV, v ∈ (s u).R) ∧ ∀ aj, cf (use s aV) aj s → ∀ b6 : j → ad → Prop, b6 av (b8 ms aj) → jN C aj aV b6 := by
 have plain : (∃ av s1, aW C s aV = some (av, s1) ∧ K (b4 s aV) av s1) → (∀ aj (b6 : j → ad → Prop) av s1, aW C aj aV = some (av, s1) → b6 av s1 → jN C aj aV b6) →
   ∃ bM av ms, K bM av (b8 ms s) ∧ (∀ m ∈ ms, m.x ∈ bM ∧ ∀ v ∈ m.d.R, ∃ u ∈ use s aV, v ∈ (s u).R) ∧ ∀ aj, cf (use s aV) aj s → ∀ b6 : j → ad → Prop, b6 av (b8 ms aj) → jN C aj aV b6 := by
  rintro ⟨av, s1, U, aa⟩ hw
  obtain ⟨ms, aE, aI, bg⟩ := xZ U
  subst aE
  exact ⟨_, av, ms, aa, fun m hm => ⟨(aI m hm).1, fun v aC => by rw [(aI m hm).2] at aC; cases aC⟩, fun aj R b6 ah => hw aj b6 av _ (bg aj R) ah⟩
 cases aV with
 | call f args =>
   obtain ⟨bM, av, ms, a7, a2, a3⟩ := u4 h
   exact ⟨bM, av, ms, a7, fun m hm => ⟨(a2 m hm).1, fun v aC => by rw [(a2 m hm).2] at aC; cases aC⟩, fun aj R b6 ah => a3 aj R b6 ah⟩
 | iJ f args u x =>
   obtain ⟨bn, bs, ag⟩ := h
   obtain ⟨bM, av, ms, ⟨a7, u7, Fh⟩, a2, a3⟩ := u4 ag
   have e : ∀ s : ad, ca (b8 ms s) u (.h x []) = b8 (ms ++ [⟨.no, u, .h x []⟩]) s := fun s => by rw [hL, ← ui]
   refine ⟨u :: bM, av, ms ++ [⟨.no, u, .h x []⟩], by rw [← e]; exact Fh, ?_, ?_⟩
   ·intro m hm
    rcases List.mem_append.1 hm with hm | hm
    ·exact ⟨by simp [(a2 m hm).1], fun v aC => by rw [(a2 m hm).2] at aC; cases aC⟩
    ·simp only [List.mem_singleton] at hm; subst hm
     refine ⟨by simp, fun v aC => ⟨u, by simp [use], ?_⟩⟩
     rw [bn]; exact aC
   ·intro aj R b6 ah
    have yQ : aj u = s u := R u (by simp [use])
    have ex : aj x = s x := R x (by simp [use])
    refine ⟨by rw [yQ]; exact bn, by rw [ex]; exact bs, a3 aj (fun y a8 => R y (by simp only [use, List.mem_cons] at a8 ⊢; exact .inr (.inr a8))) _ ⟨?_, ?_, ?_⟩⟩
    ·have := a7; simp only [b8] at this ⊢; rw [yQ]; exact this
    ·have := u7; simp only [b8] at this ⊢; rw [ex]; exact this
    ·rw [e]; exact ah
 | iK f args us =>
   obtain ⟨bs, ag⟩ := h
   obtain ⟨bM, av, ms, ⟨a7, u7⟩, a2, a3⟩ := u4 ag
   have e : ∀ aj : ad, ln (b8 ms aj) (ic s us) = b8 (ms ++ (ic s us).map fun p => ⟨.no, p.1, p.2⟩) aj := fun aj => by rw [hL, yP]
   have hF : ∀ {aj : ad}, cf (us.flatMap fun u => u :: (s u).R) aj s → ∀ p ∈ ic s us, cf p.2.R aj s := fun {aj} R p ak v aC => by
    obtain ⟨u, hu, rfl⟩ := List.mem_map.1 ak
    exact R v (List.mem_flatMap.2 ⟨u, hu, by simp [aC]⟩)
   refine ⟨us ++ bM, av, ms ++ (ic s us).map fun p => ⟨.no, p.1, p.2⟩, by rw [← e]; exact u7, ?_, ?_⟩
   ·intro m hm
    rcases List.mem_append.1 hm with hm | hm
    ·exact ⟨by simp [(a2 m hm).1], fun v aC => by rw [(a2 m hm).2] at aC; cases aC⟩
    ·obtain ⟨p, ak, rfl⟩ := List.mem_map.1 hm
     obtain ⟨u, hu, rfl⟩ := List.mem_map.1 ak
     exact ⟨List.mem_append_left _ hu, fun v aC => ⟨u, by simp only [use, List.mem_append, List.mem_flatMap]; exact .inl ⟨u, hu, by simp⟩, aC⟩⟩
   ·intro aj R b6 ah
    simp only [use] at R
    refine ⟨by rw [u5 R.left, u6 _ (hF R.left)]; exact bs, a3 aj R.right _ ⟨?_, ?_⟩⟩
    ·rw [u5 R.left, u6 _ (fun p ak => (hF R.left p ak).b8 ms)]; exact a7
    ·rw [u5 R.left, e]; exact ah
 | shr aV =>
   obtain ⟨av, s1, U, aa, au, aK⟩ := h
   obtain ⟨ms, aE, aI, bg⟩ := xZ U
   subst aE
   exact ⟨_, av.share, ms, aK, fun m hm => ⟨(aI m hm).1, fun v aC => by rw [(aI m hm).2] at aC; cases aC⟩, fun aj R b6 ah => ⟨av, _, bg aj R, aa, au, ah⟩⟩
 | _ => exact plain h (fun aj b6 av s1 U aa => ⟨av, s1, U, aa⟩)
theorem Fi {s : ad} {o : bm} {K : de → ad → Prop} (h : jQ C s o K) : ∃ gI ms, K gI (b8 ms s) ∧ sc C o s gI ms := by
 have op : ∀ (aU : List Nat), (∀ u ∈ use s o.aV, u ∈ aU) → (∀ aj, cf aU aj s → ∀ b6 : ad → Prop, jN C aj o.aV (fun av s1 => b6 (fin s1 o.dst av)) → hM C aj o b6) →
   kl C s o.aV (fun bM av s1 => K (fC s aU o.dst bM av) (fin s1 o.dst av)) → ∃ gI ms, K gI (b8 ms s) ∧ sc C o s gI ms := by
  intro aU kI i3 hw
  obtain ⟨bM, av, ms, U, aa, au⟩ := Fg hw
  obtain ⟨gR, jR, dC⟩ := yM o.dst av
  refine ⟨fC s aU o.dst bM av, ms ++ gR, ?_, ?_, ?_, sd.1, sd.2⟩
  ·rw [hL, ← dC]; exact U
  ·intro aj R b6 ah
   refine i3 aj R b6 (au aj (R.sub kI) _ ?_)
   rw [dC, ← hL]; exact ah
  ·intro m hm
   simp only [fC, List.mem_append]
   rcases List.mem_append.1 hm with hm | hm
   ·refine ⟨.inr (aa m hm).1, fun v aC => .inl ?_⟩
    obtain ⟨u, hu, h3⟩ := (aa m hm).2 v aC
    exact List.mem_flatMap.2 ⟨u, kI u hu, h3⟩
   ·exact ⟨.inl (jR m hm).1, fun u hu => .inr (by rw [(jR m hm).2] at hu; exact hu)⟩
 have skip : ∀ t, (∀ aj, cf [t] aj s → ∀ b6 : ad → Prop, b6 (fin aj o.dst (.tuple [])) → hM C aj o b6) → K (fC s [t] o.dst [] (.tuple [])) (fin s o.dst (.tuple [])) → ∃ gI ms, K gI (b8 ms s) ∧ sc C o s gI ms := by
  intro t i3 ah
  obtain ⟨gR, jR, dC⟩ := yM o.dst (.tuple [])
  refine ⟨_, gR, by rw [← dC]; exact ah, ?_, ?_, sd.1, sd.2⟩
  ·intro aj R b6 hJ
   exact i3 aj R b6 (by rw [dC]; exact hJ)
  ·intro m hm
   simp only [fC, List.mem_append]
   exact ⟨.inl (jR m hm).1, fun u hu => by rw [(jR m hm).2] at hu; simp [j.R] at hu⟩
 unfold jQ at h
 split at h
 ·rename_i aT
  exact op _ (fun _ h => h) (fun aj _ b6 hw => by unfold hM; rw [aT]; exact hw) h
 ·rename_i t b aT
  split at h
  ·rename_i dk J
   split at h
   ·rename_i e
    refine op (t :: use s o.aV) (fun u hu => by simp [hu]) (fun aj R b6 hw => ?_) h
    have : aj t = s t := R t (by simp)
    unfold hM
    rw [aT]
    simp only [this, J, if_pos e]
    exact hw
   ·rename_i e
    refine skip t (fun aj R b6 ah => ?_) h
    have : aj t = s t := R t (by simp)
    unfold hM
    rw [aT]
    simp only [this, J, if_neg e]
    exact ah
  ·rename_i J
   refine skip t (fun aj R b6 ah => ?_) h
   have : aj t = s t := R t (by simp)
   unfold hM
   rw [aT]
   simp only [this, J]
   exact ah
  ·exact h.elim
def ml (C : bp) (ros : List bm) : ad → List (Nat × de × List dZ) → Prop
 | _, [] => True
 | s, e :: r => (∃ o, ros[e.1]? = some o ∧ sc C o s e.2.1 e.2.2) ∧ ml C ros (b8 e.2.2 s) r
def km (s : ad) (r : List (Nat × de × List dZ)) : ad := r.foldl (fun s e => b8 e.2.2 s) s
def jE (a b : List Nat) : Bool := a.all fun x => !b.contains x
theorem oH {a b : List Nat} (h : jE a b = true) : ∀ x ∈ a, x ∉ b := by
 intro x an
 simp only [jE, List.all_eq_true] at h
 simpa using h x an
def nw (a b : de) : Bool := jE b.T a.aU && jE b.T a.H && jE b.T a.T && jE a.T b.aU && jE a.T b.H && b.c
theorem Fj {ros : List bm} {s : ad} {a b : Nat × de × List dZ} {r : List (Nat × de × List dZ)} (h : ml C ros s (a :: b :: r)) (ax : nw a.2.1 b.2.1 = true) :
  ml C ros s (b :: a :: r) ∧ km s (b :: a :: r) = km s (a :: b :: r) := by
 obtain ⟨⟨Fk, bB, a7, a2, a3, a4⟩, ⟨ch, J, h5, fK, kJ, ct⟩, aD⟩ := h
 simp only [nw, Bool.and_eq_true] at ax
 obtain ⟨⟨⟨⟨⟨lT, kz⟩, mP⟩, tg⟩, pG⟩, tj⟩ := ax
 have u9 : ∀ u ∈ b.2.1.aU, b8 a.2.2 s u = s u := by
  intro u hu
  refine E2 _ _ _ (fun m hm e => ?_) (ct tj u hu)
  exact oH tg m.x (a2 m hm).1 (e ▸ hu)
 have u_ : ∀ u ∈ a.2.1.aU, b8 b.2.2 s u = s u := by
  intro u hu
  refine E3 _ _ _ fun m hm => ⟨fun e => ?_, fun an => ?_⟩
  ·exact oH lT m.x (fK m hm).1 (e ▸ hu)
  ·exact oH kz m.x (fK m hm).1 (a3 u hu _ an)
 have yR : b8 b.2.2 (b8 a.2.2 s) = b8 a.2.2 (b8 b.2.2 s) := by
  refine E5 _ _ _ fun m hm n aO => ⟨fun e => ?_, fun h => ?_, fun h => ?_⟩
  ·exact oH mP n.x (fK n aO).1 (e ▸ (a2 m hm).1)
  ·exact oH kz n.x (fK n aO).1 ((a2 m hm).2 _ h)
  ·exact oH pG m.x (a2 m hm).1 ((fK n aO).2 _ h)
 refine ⟨⟨⟨ch, J, ?_, fK, ?_, ?_⟩, ⟨Fk, bB, ?_, a2, ?_, ?_⟩, ?_⟩, ?_⟩
 ·intro aj R K ah
  exact h5 aj (fun u hu => (R u hu).trans (u9 u hu).symm) K ah
 ·intro u hu x an
  exact kJ u hu x (by rw [u9 u hu]; exact an)
 ·intro ag u hu
  have := ct ag u hu
  rwa [u9 u hu] at this
 ·intro aj R K ah
  exact a7 aj (fun u hu => (R u hu).trans (u_ u hu)) K ah
 ·intro u hu x an
  rw [u_ u hu] at an
  exact a3 u hu x an
 ·intro ag u hu
  rw [u_ u hu]
  exact a4 ag u hu
 ·rw [← yR]; exact aD
 ·simp only [km, List.foldl_cons]
  rw [yR]
theorem Fl {ros : List bm} {e : Nat × de × List dZ} {post : List (Nat × de × List dZ)} : ∀ (pre : List (Nat × de × List dZ)) (s : ad), ml C ros s (pre ++ e :: post) → (∀ a ∈ pre, nw a.2.1 e.2.1 = true) →
  ml C ros s (e :: (pre ++ post)) ∧ km s (e :: (pre ++ post)) = km s (pre ++ e :: post) := by
 intro pre
 induction pre with
 | nil => intro s h _; exact ⟨h, rfl⟩
 | cons a pre ih =>
   intro s h ax
   obtain ⟨U, aa⟩ := h
   obtain ⟨g1, g2⟩ := ih _ aa fun b J => ax b (by simp [J])
   have ag : ml C ros s (a :: e :: (pre ++ post)) := ⟨U, g1⟩
   obtain ⟨bn, bs⟩ := Fj ag (ax a (by simp))
   refine ⟨bn, bs.trans ?_⟩
   simp only [km, List.foldl_cons, List.cons_append] at g2 ⊢
   exact g2
end
def qA : List (List Nat) → List (List Nat) → List (List Nat)
 | done, [] => done
 | done, a :: r => qA (done ++ [a ++ a.flatMap fun e => (done[e]?).getD []]) r
def oI (el : List (List Nat)) : List (List Nat) := qA [] el
theorem Fm {el : List (List Nat)} {l : List Nat} (hl : ∀ u i v, l = u ++ i :: v → ∀ e ∈ (el[i]?).getD [], e ∈ u) : ∀ (rest pre done : List (List Nat)), el = pre ++ rest → done.length = pre.length →
  (∀ u i v, l = u ++ i :: v → ∀ e ∈ (done[i]?).getD [], e ∈ u) → ∀ u i v, l = u ++ i :: v → ∀ e ∈ ((qA done rest)[i]?).getD [], e ∈ u := by
 intro rest
 induction rest with
 | nil => intro pre done _ _ h; exact h
 | cons a rest ih =>
   intro pre done yS hlen h
   simp only [qA]
   refine ih (pre ++ [a]) _ (by simp [yS]) (by simp [hlen]) ?_
   intro u i v hu e he
   by_cases ax : i < done.length
   ·rw [List.getElem?_append_left ax] at he
    exact h u i v hu e he
   ·rw [List.getElem?_append_right (by omega)] at he
    by_cases xH : i - done.length = 0
    ·rw [xH] at he
     simp only [List.getElem?_cons_zero, Option.getD_some, List.mem_append, List.mem_flatMap] at he
     have yT : (el[i]?).getD [] = a := by
      have : i = pre.length := by omega
      rw [yS, this, List.getElem?_append_right (Nat.le_refl _)]; simp
     rcases he with he | ⟨eE, uS, he⟩
     ·exact hl u i v hu e (by rw [yT]; exact he)
     ·have qg := hl u i v hu eE (by rw [yT]; exact uS)
      obtain ⟨xt, xu, rfl⟩ := List.append_of_mem qg
      have := h xt eE (xu ++ i :: v) (by rw [hu]; simp) e he
      simp [this]
    ·rw [List.getElem?_eq_none (by simp; omega)] at he
     simp at he
theorem Fo {el : List (List Nat)} {l : List Nat} (hl : ∀ u i v, l = u ++ i :: v → ∀ e ∈ (el[i]?).getD [], e ∈ u) : ∀ u i v, l = u ++ i :: v → ∀ e ∈ ((oI el)[i]?).getD [], e ∈ u :=
 Fm hl el [] [] rfl rfl fun u i v _ e he => by simp at he
def iQ (iR : List (List Nat)) : Nat → List (Nat × de) → List de → Bool
 | _, _, [] => true
 | ay, es, f :: af => (es.all fun e => ((iR[ay]?).getD []).contains e.1 || nw e.2 f) && iQ iR (ay + 1) ((ay, f) :: es) af
def va (iR : List (List Nat)) (a b : Nat × de × List dZ) : Prop := a.1 ∈ (iR[b.1]?).getD [] ∨ nw a.2.1 b.2.1 = true
theorem Fp {iR : List (List Nat)} : ∀ (ey : List (Nat × de × List dZ)) (ay : Nat) (es : List (Nat × de)), ey.map (·.1) = (List.range ey.length).map (· + ay) → iQ iR ay es (ey.map (·.2.1)) = true →
  ey.Pairwise (va iR) ∧ ∀ e ∈ es, ∀ b ∈ ey, e.1 ∈ (iR[b.1]?).getD [] ∨ nw e.2 b.2.1 = true := by
 intro ey
 induction ey with
 | nil => intro ay es _ _; exact ⟨.nil, fun e _ b J => by cases J⟩
 | cons a ey ih =>
   intro ay es nx d_
   rw [List.length_cons, List.range_succ_eq_map, List.map_cons, List.map_cons, List.map_map] at nx
   simp only [List.cons.injEq, Nat.zero_add] at nx
   obtain ⟨bP, nx⟩ := nx
   simp only [List.map_cons, iQ, Bool.and_eq_true, List.all_eq_true, Bool.or_eq_true] at d_
   obtain ⟨U, aa⟩ := d_
   obtain ⟨g1, g2⟩ := ih (ay + 1) _ (by rw [nx]; congr 1; funext x; simp; omega) aa
   refine ⟨.cons (fun b J => ?_) g1, fun e he b J => ?_⟩
   ·have := g2 (ay, a.2.1) (by simp) b J
    simp only [va, bP]; exact this
   ·rcases List.mem_cons.1 J with rfl | J
    ·rw [bP]
     exact (U e he).imp (fun h => by simpa using h) id
    ·exact g2 e (by simp [he]) b J
section
variable {C : bp}
theorem Fq {K : Option (List de) → ad → Prop} : ∀ (os pre : List bm) (s : ad) (acc : List de), bF C s os (some acc) K →
  ∃ ey, ml C (pre ++ os) s ey ∧ ey.map (·.1) = (List.range os.length).map (· + pre.length) ∧ K (some ((ey.map (·.2.1)).reverse ++ acc)) (km s ey) := by
 intro os
 induction os with
 | nil => intro pre s acc h; exact ⟨[], trivial, rfl, h⟩
 | cons o os ih =>
   intro pre s acc h
   obtain ⟨gI, ms, U, aa⟩ := Fi h
   obtain ⟨ey, g1, g2, g3⟩ := ih (pre ++ [o]) _ (gI :: acc) U
   refine ⟨(pre.length, gI, ms) :: ey, ⟨⟨o, ?_, aa⟩, ?_⟩, ?_, ?_⟩
   ·rw [List.getElem?_append_right (Nat.le_refl _)]; simp
   ·simpa using g1
   ·rw [List.length_cons, List.range_succ_eq_map, List.map_cons, List.map_cons, List.map_map, g2]
    simp only [List.cons.injEq, Nat.zero_add, true_and]
    congr 1; funext x; simp; omega
   ·simpa [km] using g3
theorem Fs {ros : List bm} {iR : List (List Nat)} {K : ad → Prop} : ∀ (l : List Nat) (ey : List (Nat × de × List dZ)) (s : ad), ml C ros s ey → ey.Pairwise (va iR) → l.Nodup → (ey.map (·.1)).Nodup →
  (∀ i, i ∈ l ↔ i ∈ ey.map (·.1)) → (∀ u i v, l = u ++ i :: v → ∀ e ∈ (iR[i]?).getD [], e ∈ ey.map (·.1) → e ∈ u) → K (km s ey) → gn C ros s l K := by
 intro l
 induction l with
 | nil =>
   intro ey s _ _ _ _ hm _ ah
   cases ey with
   | nil => exact ah
   | cons e ey => have := (hm e.1).2 (by simp); cases this
 | cons i l ih =>
   intro ey s ag ak aO qa hm bq ah
   obtain ⟨e, he, ax⟩ := List.mem_map.1 ((hm i).1 (by simp))
   obtain ⟨pre, post, rfl⟩ := List.append_of_mem he
   have Ft : ∀ a ∈ pre, nw a.2.1 e.2.1 = true := by
    intro a bB
    have aD := (List.pairwise_append.1 ak).2.2 a bB e (by simp)
    rcases aD with aD | aD
    ·rw [ax] at aD
     have := bq [] i l rfl a.1 aD (by simp only [List.map_append, List.mem_append, List.mem_map]; exact .inl ⟨a, bB, rfl⟩)
     cases this
    ·exact aD
   obtain ⟨g1, g2⟩ := Fl pre s ag Ft
   obtain ⟨⟨o, vb, Fu⟩, g3⟩ := g1
   have yU : i ∉ (pre ++ post).map (·.1) := by
    have : (pre.map (·.1) ++ e.1 :: post.map (·.1)).Nodup := by simpa using qa
    have aX := (List.perm_middle.nodup_iff.1 this)
    rw [List.nodup_cons] at aX
    rw [← ax]; simpa using aX.1
   simp only [gn]
   rw [← ax, vb]
   refine Fu.1 s (fun _ _ => rfl) _ ?_
   rw [List.nodup_cons] at aO
   refine ih (pre ++ post) _ g3 ?_ aO.2 ?_ ?_ ?_ ?_
   ·exact ak.sublist ((List.Sublist.refl pre).append (List.sublist_cons_self e post))
   ·have : (pre.map (·.1) ++ e.1 :: post.map (·.1)).Nodup := by simpa using qa
    have aX := (List.perm_middle.nodup_iff.1 this)
    rw [List.nodup_cons] at aX
    simpa using aX.2
   ·intro ay
    constructor
    ·intro bP
     have U := (hm ay).1 (by simp [bP])
     simp only [List.map_append, List.map_cons, List.mem_append, List.mem_cons] at U ⊢
     rcases U with U | rfl | U
     ·exact .inl U
     ·exact (aO.1 (ax ▸ bP)).elim
     ·exact .inr U
    ·intro bP
     have U := (hm ay).2 (by
      simp only [List.map_append, List.map_cons, List.mem_append, List.mem_cons] at bP ⊢
      exact bP.imp id .inr)
     rcases List.mem_cons.1 U with rfl | U
     ·exact (yU bP).elim
     ·exact U
   ·intro u ay v hu x an vc
    have U := bq (i :: u) ay v (by rw [hu]; rfl) x an (by
     simp only [List.map_append, List.map_cons, List.mem_append, List.mem_cons] at vc ⊢
     exact vc.imp id .inr)
    rcases List.mem_cons.1 U with rfl | U
    ·exact (yU vc).elim
    ·exact U
   ·have : km s (e :: (pre ++ post)) = km (b8 e.2.2 s) (pre ++ post) := rfl
    rw [← this, g2]; exact ah
theorem Fv {ros : List bm} {el : List (List Nat)} {s : ad} {K : ad → Prop} (hlen : el.length = ros.length)
  (h : bF C s ros (some []) (fun acc s => iQ (oI el) 0 [] (acc.getD []).reverse = true ∧ K s)) : ∀ l, uQ el l → gn C ros s l K := by
 intro l ⟨ev, l2, r3⟩
 obtain ⟨ey, g1, g2, g3, g4⟩ := Fq ros [] s [] h
 simp only [List.nil_append, List.append_nil, List.length_nil, Option.getD_some, List.reverse_reverse] at g1 g2 g3
 have hl : ey.length = ros.length := by have := congrArg List.length g2; simpa using this
 have nx : ey.map (·.1) = (List.range ey.length).map (· + 0) := by rw [g2, hl]
 have aD : ey.map (·.1) = List.range ros.length := by rw [g2]; simp
 obtain ⟨dF, _⟩ := Fp ey 0 [] nx g3
 refine Fs l ey s g1 dF ev (by rw [aD]; exact List.nodup_range) (fun i => ?_) (fun u i v hu e he _ => Fo r3 u i v hu e he) g4
 rw [aD, l2, hlen, List.mem_range]
end
def cn (C : bp) (dst : Option Nat) (os : List bm) (K : Option (List de) → ad → Prop) : Option (j × ad) → Prop
 | some (av, s1) => bF C (fin s1 dst av) os none K
 | none => False
def cp (C : bp) (l : List (Nat × j)) (aU bM : List Nat) (dst : Option Nat) (os : List bm) (a : List de) (K : Option (List de) → ad → Prop) : Option (j × ad) → Prop
 | some (av, s1) => bF C (fin s1 dst av) os (some (fC (I l) aU dst bM av :: a)) K
 | none => False
def bw (C : bp) (l : List (Nat × j)) (dst : Option Nat) (aV : dH) (t : Nat) (b : Bool) (os : List bm) (acc : Option (List de)) (K : Option (List de) → ad → Prop) : j → Prop
 | .bool dk => if dk = b then kl C (I l) aV (fun bM av s1 => bF C (fin s1 dst av) os (lr acc (fC (I l) (t :: use (I l) aV) dst bM av)) K) else bF C (fin (I l) dst (.tuple [])) os (lr acc (fC (I l) [t] dst [] (.tuple []))) K
 | .tuple [] => bF C (fin (I l) dst (.tuple [])) os (lr acc (fC (I l) [t] dst [] (.tuple []))) K
 | _ => False
section
variable {C : bp} {l : List (Nat × j)} {os : List bm} {K : Option (List de) → ad → Prop} {dst : Option Nat} {a : List de} {acc : Option (List de)}
theorem se {s : ad} {aV : dH} {K : List Nat → j → ad → Prop} (aO : aV.nu = false) : kl C s aV K = (match aW C s aV with
  | some (av, s1) => K (b4 s aV) av s1
  | none => False) := by
 apply propext
 constructor
 ·intro h
  cases aV <;> first
   | (simp [dH.nu] at aO; done)
   | (obtain ⟨av, s1, U, aa⟩ := h; rw [U]; exact aa)
 ·intro h
  split at h
  ·rename_i av s1 he
   cases aV <;> first
    | (simp [dH.nu] at aO; done)
    | exact ⟨av, s1, he, h⟩
  ·exact h.elim
theorem yV : bF C (I l) [] acc K = K acc (I l) := rfl
theorem ga {aV : dH} (aO : aV.nu = false) : bF C (I l) (⟨dst, aV, none⟩ :: os) none K = cn C dst os K (aW C (I l) aV) := by
 simp only [bF, jQ, lr]
 rw [se aO]
 cases aW C (I l) aV with
 | none => rfl
 | some p => rfl
theorem gb {aV : dH} (aO : aV.nu = false) : bF C (I l) (⟨dst, aV, none⟩ :: os) (some a) K = cp C l (use (I l) aV) (b4 (I l) aV) dst os a K (aW C (I l) aV) := by
 simp only [bF, jQ, lr]
 rw [se aO]
 cases aW C (I l) aV with
 | none => rfl
 | some p => rfl
theorem yW {aV : dH} {t : Nat} {b : Bool} : bF C (I l) (⟨dst, aV, some (t, b)⟩ :: os) acc K = bw C l dst aV t b os acc K (I l t) := by
 simp only [bF, jQ]
 generalize I l t = v
 cases v <;> first | rfl | (rename_i vs; cases vs <;> rfl)
theorem di {aV : dH} {t : Nat} {b : Bool} (aO : aV.nu = false) : bw C l dst aV t b os none K (.bool b) = cn C dst os K (aW C (I l) aV) := by
 simp only [bw, if_true]
 rw [se aO]
 cases aW C (I l) aV with
 | none => rfl
 | some p => rfl
theorem dj {aV : dH} {t : Nat} {b : Bool} (aO : aV.nu = false) : bw C l dst aV t b os (some a) K (.bool b) = cp C l (t :: use (I l) aV) (b4 (I l) aV) dst os a K (aW C (I l) aV) := by
 simp only [bw, if_true]
 rw [se aO]
 cases aW C (I l) aV with
 | none => rfl
 | some p => rfl
theorem Fw {aV : dH} {t : Nat} : bw C l dst aV t true os none K (.bool false) = bF C (fin (I l) dst (.tuple [])) os none K ∧ bw C l dst aV t false os none K (.bool true) = bF C (fin (I l) dst (.tuple [])) os none K ∧
  (∀ b, bw C l dst aV t b os none K (.tuple []) = bF C (fin (I l) dst (.tuple [])) os none K) := ⟨rfl, rfl, fun _ => rfl⟩
theorem Fx {aV : dH} {t : Nat} : bw C l dst aV t true os (some a) K (.bool false) = bF C (fin (I l) dst (.tuple [])) os (some (fC (I l) [t] dst [] (.tuple []) :: a)) K ∧
  bw C l dst aV t false os (some a) K (.bool true) = bF C (fin (I l) dst (.tuple [])) os (some (fC (I l) [t] dst [] (.tuple []) :: a)) K ∧
  (∀ b, bw C l dst aV t b os (some a) K (.tuple []) = bF C (fin (I l) dst (.tuple [])) os (some (fC (I l) [t] dst [] (.tuple []) :: a)) K) := ⟨rfl, rfl, fun _ => rfl⟩
theorem Fy (av : j) (s1 : ad) : cn C dst os K (some (av, s1)) = bF C (fin s1 dst av) os none K := rfl
theorem Fz (aU bM : List Nat) (av : j) (s1 : ad) : cp C l aU bM dst os a K (some (av, s1)) = bF C (fin s1 dst av) os (some (fC (I l) aU dst bM av :: a)) K := rfl
def fU (s : ad) : j → Option (j × ad)
 | .h y q => bM s (.h y q)
 | d => some (d, s)
def mm (s : ad) : j → j → j → Option (j × ad)
 | .bool dk, x, y => some (if dk then x else y, s)
 | _, _, _ => none
def bU (s : ad) : Option j → Option (j × ad)
 | some d => some (d, s)
 | none => none
def hN : Option ad → Option (j × ad)
 | some s1 => some (.hole, s1)
 | none => none
def fu (s : ad) : List aq → List j
 | [] => []
 | x :: xs => aw s x :: fu s xs
def gA (s : ad) : List (Nat × aq) → List (Nat × j)
 | [] => []
 | (k, x) :: xs => (k, aw s x) :: gA s xs
def hy (s : ad) : Option aq → Option j
 | none => none
 | some x => some (aw s x)
theorem jS (s : ad) (x : Option j) : (x.map fun d => (d, s)) = bU s x := by cases x <;> rfl
theorem FA (x : Option ad) : (x.map fun s1 => (j.hole, s1)) = hN x := by cases x <;> rfl
theorem sf (s : ad) : ∀ xs : List aq, xs.map (aw s) = fu s xs
 | [] => rfl
 | x :: xs => by simp only [List.map_cons, fu, sf s xs]
theorem vd (s : ad) : ∀ xs : List (Nat × aq), (xs.map fun p => (p.1, aw s p.2)) = gA s xs
 | [] => rfl
 | (k, x) :: xs => by simp only [List.map_cons, gA, vd s xs]
theorem FB (s : ad) (x : Option aq) : x.map (aw s) = hy s x := by cases x <;> rfl
theorem oJ (x : aq) : aW C (I l) (.cd x) = some (aw (I l) x, I l) := by
 rfl
theorem oK (x : aq) : aW C (I l) (.ew x) = fU (I l) (aw (I l) x) := by
 simp only [aW]; cases aw (I l) x <;> rfl
theorem oL (c x y : aq) : aW C (I l) (.pick c x y) = mm (I l) (aw (I l) c) (aw (I l) x) (aw (I l) y) := by
 simp only [aW]; cases aw (I l) c <;> first | rfl | (rename_i b; cases b <;> rfl)
theorem oM (T : TypeId) : aW C (I l) (.eH T) = bU (I l) (eH C T) := by
 simp only [aW, jS]
theorem oN (T : TypeId) (x : aq) : aW C (I l) (.du T x) = du (I l) (aw (I l) x) := by
 rfl
theorem oO (T : TypeId) (ps : List (Nat × aq)) : aW C (I l) (.cI T ps) = cI C (I l) T (gA (I l) ps) := by
 simp only [aW, vd]
theorem oP (T : TypeId) (n : Nat) (ps : List (Nat × aq)) : aW C (I l) (.cM T n ps) = cM C (I l) T n (gA (I l) ps) := by
 simp only [aW, vd]
theorem oQ (T : TypeId) (x : aq) : aW C (I l) (.cL T x) = bU (I l) (cL C (I l) T (aw (I l) x)) := by
 simp only [aW, jS]
theorem oR (T : TypeId) (x y : aq) : aW C (I l) (.dR T x y) = hN (dR C (I l) T (aw (I l) x) (aw (I l) y)) := by
 simp only [aW, FA]
theorem oS (x : aq) : aW C (I l) (.dU x) = bU (I l) (dU (I l) (aw (I l) x)) := by
 simp only [aW, jS]
theorem oT (op : BinOp) (T : TypeId) (x y : aq) : aW C (I l) (.bO op T x y) = bU (I l) (bO C (I l) op T (aw (I l) x) (aw (I l) y)) := by
 simp only [aW, jS]
theorem oU (op : UnOp) (x : aq) : aW C (I l) (.un op x) = bU (I l) (un op (aw (I l) x)) := by
 simp only [aW, jS]
theorem oV (A B : TypeId) (x : aq) : aW C (I l) (.dv A B x) = bU (I l) (dv C (I l) A B (aw (I l) x)) := by
 simp only [aW, jS]
theorem oW (f : FuncId) (cs : List aq) : aW C (I l) (.gF f cs) = some (.fn f (fu (I l) cs), I l) := by
 simp only [aW, sf]
theorem oX (T : TypeId) (x y : aq) : aW C (I l) (.e6 T x y) = bU (I l) (e6 C T (aw (I l) x) (aw (I l) y)) := by
 simp only [aW, jS]
theorem oY (T : TypeId) (x : aq) (bY ax : Option aq) : aW C (I l) (.cU T x bY ax) = cU C (I l) T (aw (I l) x) (hy (I l) bY) (hy (I l) ax) := by
 simp only [aW, FB]
theorem oZ (T : TypeId) (x : aq) (k : Nat) : aW C (I l) (.dn T x k) = bU (I l) (dn C (I l) T (aw (I l) x) k) := by
 simp only [aW, jS]
theorem o0 (T : TypeId) (x y : aq) : aW C (I l) (.dA T x y) = bU (I l) (dA C (I l) T (aw (I l) x) (aw (I l) y)) := by
 simp only [aW, jS]
theorem o1 (T : TypeId) (x y : aq) : aW C (I l) (.idx T x y) = bU (I l) (idx C T (aw (I l) x) (aw (I l) y)) := by
 simp only [aW, jS]
theorem o2 (x : aq) (k : Nat) : aW C (I l) (.ex x k) = bU (I l) (ex (I l) (aw (I l) x) k) := by
 simp only [aW, jS]
theorem o3 (T : TypeId) (x : aq) : aW C (I l) (.len T x) = bU (I l) (h7 C (I l) T (aw (I l) x)) := by
 simp only [aW, jS]
theorem o4 (T aU : TypeId) (x y : aq) : aW C (I l) (.app T aU x y) = h9 C (I l) T aU (aw (I l) x) (aw (I l) y) := by
 rfl
theorem FC :
  (∀ (x : aq) , bF C (I l) (⟨dst, .cd x, none⟩ :: os) none K = cn C dst os K (some (aw (I l) x, I l))) ∧
  (∀ (x : aq) , bF C (I l) (⟨dst, .ew x, none⟩ :: os) none K = cn C dst os K (fU (I l) (aw (I l) x))) ∧
  (∀ (c x y : aq) , bF C (I l) (⟨dst, .pick c x y, none⟩ :: os) none K = cn C dst os K (mm (I l) (aw (I l) c) (aw (I l) x) (aw (I l) y))) ∧
  (∀ (T : TypeId) , bF C (I l) (⟨dst, .eH T, none⟩ :: os) none K = cn C dst os K (bU (I l) (eH C T))) ∧
  (∀ (T : TypeId) (x : aq) , bF C (I l) (⟨dst, .du T x, none⟩ :: os) none K = cn C dst os K (du (I l) (aw (I l) x))) ∧
  (∀ (T : TypeId) (ps : List (Nat × aq)) , bF C (I l) (⟨dst, .cI T ps, none⟩ :: os) none K = cn C dst os K (cI C (I l) T (gA (I l) ps))) ∧
  (∀ (T : TypeId) (n : Nat) (ps : List (Nat × aq)) , bF C (I l) (⟨dst, .cM T n ps, none⟩ :: os) none K = cn C dst os K (cM C (I l) T n (gA (I l) ps))) ∧
  (∀ (T : TypeId) (x : aq) , bF C (I l) (⟨dst, .cL T x, none⟩ :: os) none K = cn C dst os K (bU (I l) (cL C (I l) T (aw (I l) x)))) ∧
  (∀ (T : TypeId) (x y : aq) , bF C (I l) (⟨dst, .dR T x y, none⟩ :: os) none K = cn C dst os K (hN (dR C (I l) T (aw (I l) x) (aw (I l) y)))) ∧
  (∀ (x : aq) , bF C (I l) (⟨dst, .dU x, none⟩ :: os) none K = cn C dst os K (bU (I l) (dU (I l) (aw (I l) x)))) ∧
  (∀ (op : BinOp) (T : TypeId) (x y : aq) , bF C (I l) (⟨dst, .bO op T x y, none⟩ :: os) none K = cn C dst os K (bU (I l) (bO C (I l) op T (aw (I l) x) (aw (I l) y)))) ∧
  (∀ (op : UnOp) (x : aq) , bF C (I l) (⟨dst, .un op x, none⟩ :: os) none K = cn C dst os K (bU (I l) (un op (aw (I l) x)))) ∧
  (∀ (A B : TypeId) (x : aq) , bF C (I l) (⟨dst, .dv A B x, none⟩ :: os) none K = cn C dst os K (bU (I l) (dv C (I l) A B (aw (I l) x)))) ∧
  (∀ (f : FuncId) (cs : List aq) , bF C (I l) (⟨dst, .gF f cs, none⟩ :: os) none K = cn C dst os K (some (.fn f (fu (I l) cs), I l))) ∧
  (∀ (T : TypeId) (x y : aq) , bF C (I l) (⟨dst, .e6 T x y, none⟩ :: os) none K = cn C dst os K (bU (I l) (e6 C T (aw (I l) x) (aw (I l) y)))) ∧
  (∀ (T : TypeId) (x : aq) (bY ax : Option aq) , bF C (I l) (⟨dst, .cU T x bY ax, none⟩ :: os) none K = cn C dst os K (cU C (I l) T (aw (I l) x) (hy (I l) bY) (hy (I l) ax))) ∧
  (∀ (T : TypeId) (x : aq) (k : Nat) , bF C (I l) (⟨dst, .dn T x k, none⟩ :: os) none K = cn C dst os K (bU (I l) (dn C (I l) T (aw (I l) x) k))) ∧
  (∀ (T : TypeId) (x y : aq) , bF C (I l) (⟨dst, .dA T x y, none⟩ :: os) none K = cn C dst os K (bU (I l) (dA C (I l) T (aw (I l) x) (aw (I l) y)))) ∧
  (∀ (T : TypeId) (x y : aq) , bF C (I l) (⟨dst, .idx T x y, none⟩ :: os) none K = cn C dst os K (bU (I l) (idx C T (aw (I l) x) (aw (I l) y)))) ∧
  (∀ (x : aq) (k : Nat) , bF C (I l) (⟨dst, .ex x k, none⟩ :: os) none K = cn C dst os K (bU (I l) (ex (I l) (aw (I l) x) k))) ∧
  (∀ (T : TypeId) (x : aq) , bF C (I l) (⟨dst, .len T x, none⟩ :: os) none K = cn C dst os K (bU (I l) (h7 C (I l) T (aw (I l) x)))) ∧
  (∀ (T aU : TypeId) (x y : aq) , bF C (I l) (⟨dst, .app T aU x y, none⟩ :: os) none K = cn C dst os K (h9 C (I l) T aU (aw (I l) x) (aw (I l) y))) :=
 ⟨fun x => (ga rfl).trans (congrArg _ (oJ x)), fun x => (ga rfl).trans (congrArg _ (oK x)), fun c x y => (ga rfl).trans (congrArg _ (oL c x y)), fun T => (ga rfl).trans (congrArg _ (oM T)), fun T x => (ga rfl).trans (congrArg _ (oN T x)), fun T ps => (ga rfl).trans (congrArg _ (oO T ps)), fun T n ps => (ga rfl).trans (congrArg _ (oP T n ps)), fun T x => (ga rfl).trans (congrArg _ (oQ T x)), fun T x y => (ga rfl).trans (congrArg _ (oR T x y)), fun x => (ga rfl).trans (congrArg _ (oS x)), fun op T x y => (ga rfl).trans (congrArg _ (oT op T x y)), fun op x => (ga rfl).trans (congrArg _ (oU op x)), fun A B x => (ga rfl).trans (congrArg _ (oV A B x)), fun f cs => (ga rfl).trans (congrArg _ (oW f cs)), fun T x y => (ga rfl).trans (congrArg _ (oX T x y)), fun T x bY ax => (ga rfl).trans (congrArg _ (oY T x bY ax)), fun T x k => (ga rfl).trans (congrArg _ (oZ T x k)), fun T x y => (ga rfl).trans (congrArg _ (o0 T x y)), fun T x y => (ga rfl).trans (congrArg _ (o1 T x y)), fun x k => (ga rfl).trans (congrArg _ (o2 x k)), fun T x => (ga rfl).trans (congrArg _ (o3 T x)), fun T aU x y => (ga rfl).trans (congrArg _ (o4 T aU x y))⟩
theorem FD :
  (∀ (x : aq) , bF C (I l) (⟨dst, .cd x, none⟩ :: os) (some a) K = cp C l (use (I l) (.cd x)) (b4 (I l) (.cd x)) dst os a K (some (aw (I l) x, I l))) ∧
  (∀ (x : aq) , bF C (I l) (⟨dst, .ew x, none⟩ :: os) (some a) K = cp C l (use (I l) (.ew x)) (b4 (I l) (.ew x)) dst os a K (fU (I l) (aw (I l) x))) ∧
  (∀ (c x y : aq) , bF C (I l) (⟨dst, .pick c x y, none⟩ :: os) (some a) K = cp C l (use (I l) (.pick c x y)) (b4 (I l) (.pick c x y)) dst os a K (mm (I l) (aw (I l) c) (aw (I l) x) (aw (I l) y))) ∧
  (∀ (T : TypeId) , bF C (I l) (⟨dst, .eH T, none⟩ :: os) (some a) K = cp C l (use (I l) (.eH T)) (b4 (I l) (.eH T)) dst os a K (bU (I l) (eH C T))) ∧
  (∀ (T : TypeId) (x : aq) , bF C (I l) (⟨dst, .du T x, none⟩ :: os) (some a) K = cp C l (use (I l) (.du T x)) (b4 (I l) (.du T x)) dst os a K (du (I l) (aw (I l) x))) ∧
  (∀ (T : TypeId) (ps : List (Nat × aq)) , bF C (I l) (⟨dst, .cI T ps, none⟩ :: os) (some a) K = cp C l (use (I l) (.cI T ps)) (b4 (I l) (.cI T ps)) dst os a K (cI C (I l) T (gA (I l) ps))) ∧
  (∀ (T : TypeId) (n : Nat) (ps : List (Nat × aq)) , bF C (I l) (⟨dst, .cM T n ps, none⟩ :: os) (some a) K = cp C l (use (I l) (.cM T n ps)) (b4 (I l) (.cM T n ps)) dst os a K (cM C (I l) T n (gA (I l) ps))) ∧
  (∀ (T : TypeId) (x : aq) , bF C (I l) (⟨dst, .cL T x, none⟩ :: os) (some a) K = cp C l (use (I l) (.cL T x)) (b4 (I l) (.cL T x)) dst os a K (bU (I l) (cL C (I l) T (aw (I l) x)))) ∧
  (∀ (T : TypeId) (x y : aq) , bF C (I l) (⟨dst, .dR T x y, none⟩ :: os) (some a) K = cp C l (use (I l) (.dR T x y)) (b4 (I l) (.dR T x y)) dst os a K (hN (dR C (I l) T (aw (I l) x) (aw (I l) y)))) ∧
  (∀ (x : aq) , bF C (I l) (⟨dst, .dU x, none⟩ :: os) (some a) K = cp C l (use (I l) (.dU x)) (b4 (I l) (.dU x)) dst os a K (bU (I l) (dU (I l) (aw (I l) x)))) ∧
  (∀ (op : BinOp) (T : TypeId) (x y : aq) , bF C (I l) (⟨dst, .bO op T x y, none⟩ :: os) (some a) K = cp C l (use (I l) (.bO op T x y)) (b4 (I l) (.bO op T x y)) dst os a K (bU (I l) (bO C (I l) op T (aw (I l) x) (aw (I l) y)))) ∧
  (∀ (op : UnOp) (x : aq) , bF C (I l) (⟨dst, .un op x, none⟩ :: os) (some a) K = cp C l (use (I l) (.un op x)) (b4 (I l) (.un op x)) dst os a K (bU (I l) (un op (aw (I l) x)))) ∧
  (∀ (A B : TypeId) (x : aq) , bF C (I l) (⟨dst, .dv A B x, none⟩ :: os) (some a) K = cp C l (use (I l) (.dv A B x)) (b4 (I l) (.dv A B x)) dst os a K (bU (I l) (dv C (I l) A B (aw (I l) x)))) ∧
  (∀ (f : FuncId) (cs : List aq) , bF C (I l) (⟨dst, .gF f cs, none⟩ :: os) (some a) K = cp C l (use (I l) (.gF f cs)) (b4 (I l) (.gF f cs)) dst os a K (some (.fn f (fu (I l) cs), I l))) ∧
  (∀ (T : TypeId) (x y : aq) , bF C (I l) (⟨dst, .e6 T x y, none⟩ :: os) (some a) K = cp C l (use (I l) (.e6 T x y)) (b4 (I l) (.e6 T x y)) dst os a K (bU (I l) (e6 C T (aw (I l) x) (aw (I l) y)))) ∧
  (∀ (T : TypeId) (x : aq) (bY ax : Option aq) , bF C (I l) (⟨dst, .cU T x bY ax, none⟩ :: os) (some a) K = cp C l (use (I l) (.cU T x bY ax)) (b4 (I l) (.cU T x bY ax)) dst os a K (cU C (I l) T (aw (I l) x) (hy (I l) bY) (hy (I l) ax))) ∧
  (∀ (T : TypeId) (x : aq) (k : Nat) , bF C (I l) (⟨dst, .dn T x k, none⟩ :: os) (some a) K = cp C l (use (I l) (.dn T x k)) (b4 (I l) (.dn T x k)) dst os a K (bU (I l) (dn C (I l) T (aw (I l) x) k))) ∧
  (∀ (T : TypeId) (x y : aq) , bF C (I l) (⟨dst, .dA T x y, none⟩ :: os) (some a) K = cp C l (use (I l) (.dA T x y)) (b4 (I l) (.dA T x y)) dst os a K (bU (I l) (dA C (I l) T (aw (I l) x) (aw (I l) y)))) ∧
  (∀ (T : TypeId) (x y : aq) , bF C (I l) (⟨dst, .idx T x y, none⟩ :: os) (some a) K = cp C l (use (I l) (.idx T x y)) (b4 (I l) (.idx T x y)) dst os a K (bU (I l) (idx C T (aw (I l) x) (aw (I l) y)))) ∧
  (∀ (x : aq) (k : Nat) , bF C (I l) (⟨dst, .ex x k, none⟩ :: os) (some a) K = cp C l (use (I l) (.ex x k)) (b4 (I l) (.ex x k)) dst os a K (bU (I l) (ex (I l) (aw (I l) x) k))) ∧
  (∀ (T : TypeId) (x : aq) , bF C (I l) (⟨dst, .len T x, none⟩ :: os) (some a) K = cp C l (use (I l) (.len T x)) (b4 (I l) (.len T x)) dst os a K (bU (I l) (h7 C (I l) T (aw (I l) x)))) ∧
  (∀ (T aU : TypeId) (x y : aq) , bF C (I l) (⟨dst, .app T aU x y, none⟩ :: os) (some a) K = cp C l (use (I l) (.app T aU x y)) (b4 (I l) (.app T aU x y)) dst os a K (h9 C (I l) T aU (aw (I l) x) (aw (I l) y))) :=
 ⟨fun x => (gb rfl).trans (congrArg _ (oJ x)), fun x => (gb rfl).trans (congrArg _ (oK x)), fun c x y => (gb rfl).trans (congrArg _ (oL c x y)), fun T => (gb rfl).trans (congrArg _ (oM T)), fun T x => (gb rfl).trans (congrArg _ (oN T x)), fun T ps => (gb rfl).trans (congrArg _ (oO T ps)), fun T n ps => (gb rfl).trans (congrArg _ (oP T n ps)), fun T x => (gb rfl).trans (congrArg _ (oQ T x)), fun T x y => (gb rfl).trans (congrArg _ (oR T x y)), fun x => (gb rfl).trans (congrArg _ (oS x)), fun op T x y => (gb rfl).trans (congrArg _ (oT op T x y)), fun op x => (gb rfl).trans (congrArg _ (oU op x)), fun A B x => (gb rfl).trans (congrArg _ (oV A B x)), fun f cs => (gb rfl).trans (congrArg _ (oW f cs)), fun T x y => (gb rfl).trans (congrArg _ (oX T x y)), fun T x bY ax => (gb rfl).trans (congrArg _ (oY T x bY ax)), fun T x k => (gb rfl).trans (congrArg _ (oZ T x k)), fun T x y => (gb rfl).trans (congrArg _ (o0 T x y)), fun T x y => (gb rfl).trans (congrArg _ (o1 T x y)), fun x k => (gb rfl).trans (congrArg _ (o2 x k)), fun T x => (gb rfl).trans (congrArg _ (o3 T x)), fun T aU x y => (gb rfl).trans (congrArg _ (o4 T aU x y))⟩
theorem FE :
  (∀ (x : aq) (t : Nat), bw C l dst (.cd x) t true os none K (.bool true) = cn C dst os K (some (aw (I l) x, I l))) ∧
  (∀ (x : aq) (t : Nat), bw C l dst (.cd x) t false os none K (.bool false) = cn C dst os K (some (aw (I l) x, I l))) ∧
  (∀ (x : aq) (t : Nat), bw C l dst (.ew x) t true os none K (.bool true) = cn C dst os K (fU (I l) (aw (I l) x))) ∧
  (∀ (x : aq) (t : Nat), bw C l dst (.ew x) t false os none K (.bool false) = cn C dst os K (fU (I l) (aw (I l) x))) ∧
  (∀ (c x y : aq) (t : Nat), bw C l dst (.pick c x y) t true os none K (.bool true) = cn C dst os K (mm (I l) (aw (I l) c) (aw (I l) x) (aw (I l) y))) ∧
  (∀ (c x y : aq) (t : Nat), bw C l dst (.pick c x y) t false os none K (.bool false) = cn C dst os K (mm (I l) (aw (I l) c) (aw (I l) x) (aw (I l) y))) ∧
  (∀ (T : TypeId) (t : Nat), bw C l dst (.eH T) t true os none K (.bool true) = cn C dst os K (bU (I l) (eH C T))) ∧
  (∀ (T : TypeId) (t : Nat), bw C l dst (.eH T) t false os none K (.bool false) = cn C dst os K (bU (I l) (eH C T))) ∧
  (∀ (T : TypeId) (x : aq) (t : Nat), bw C l dst (.du T x) t true os none K (.bool true) = cn C dst os K (du (I l) (aw (I l) x))) ∧
  (∀ (T : TypeId) (x : aq) (t : Nat), bw C l dst (.du T x) t false os none K (.bool false) = cn C dst os K (du (I l) (aw (I l) x))) ∧
  (∀ (T : TypeId) (ps : List (Nat × aq)) (t : Nat), bw C l dst (.cI T ps) t true os none K (.bool true) = cn C dst os K (cI C (I l) T (gA (I l) ps))) ∧
  (∀ (T : TypeId) (ps : List (Nat × aq)) (t : Nat), bw C l dst (.cI T ps) t false os none K (.bool false) = cn C dst os K (cI C (I l) T (gA (I l) ps))) ∧
  (∀ (T : TypeId) (n : Nat) (ps : List (Nat × aq)) (t : Nat), bw C l dst (.cM T n ps) t true os none K (.bool true) = cn C dst os K (cM C (I l) T n (gA (I l) ps))) ∧
  (∀ (T : TypeId) (n : Nat) (ps : List (Nat × aq)) (t : Nat), bw C l dst (.cM T n ps) t false os none K (.bool false) = cn C dst os K (cM C (I l) T n (gA (I l) ps))) ∧
  (∀ (T : TypeId) (x : aq) (t : Nat), bw C l dst (.cL T x) t true os none K (.bool true) = cn C dst os K (bU (I l) (cL C (I l) T (aw (I l) x)))) ∧
  (∀ (T : TypeId) (x : aq) (t : Nat), bw C l dst (.cL T x) t false os none K (.bool false) = cn C dst os K (bU (I l) (cL C (I l) T (aw (I l) x)))) ∧
  (∀ (T : TypeId) (x y : aq) (t : Nat), bw C l dst (.dR T x y) t true os none K (.bool true) = cn C dst os K (hN (dR C (I l) T (aw (I l) x) (aw (I l) y)))) ∧
  (∀ (T : TypeId) (x y : aq) (t : Nat), bw C l dst (.dR T x y) t false os none K (.bool false) = cn C dst os K (hN (dR C (I l) T (aw (I l) x) (aw (I l) y)))) ∧
  (∀ (x : aq) (t : Nat), bw C l dst (.dU x) t true os none K (.bool true) = cn C dst os K (bU (I l) (dU (I l) (aw (I l) x)))) ∧
  (∀ (x : aq) (t : Nat), bw C l dst (.dU x) t false os none K (.bool false) = cn C dst os K (bU (I l) (dU (I l) (aw (I l) x)))) ∧
  (∀ (op : BinOp) (T : TypeId) (x y : aq) (t : Nat), bw C l dst (.bO op T x y) t true os none K (.bool true) = cn C dst os K (bU (I l) (bO C (I l) op T (aw (I l) x) (aw (I l) y)))) ∧
  (∀ (op : BinOp) (T : TypeId) (x y : aq) (t : Nat), bw C l dst (.bO op T x y) t false os none K (.bool false) = cn C dst os K (bU (I l) (bO C (I l) op T (aw (I l) x) (aw (I l) y)))) ∧
  (∀ (op : UnOp) (x : aq) (t : Nat), bw C l dst (.un op x) t true os none K (.bool true) = cn C dst os K (bU (I l) (un op (aw (I l) x)))) ∧
  (∀ (op : UnOp) (x : aq) (t : Nat), bw C l dst (.un op x) t false os none K (.bool false) = cn C dst os K (bU (I l) (un op (aw (I l) x)))) ∧
  (∀ (A B : TypeId) (x : aq) (t : Nat), bw C l dst (.dv A B x) t true os none K (.bool true) = cn C dst os K (bU (I l) (dv C (I l) A B (aw (I l) x)))) ∧
  (∀ (A B : TypeId) (x : aq) (t : Nat), bw C l dst (.dv A B x) t false os none K (.bool false) = cn C dst os K (bU (I l) (dv C (I l) A B (aw (I l) x)))) ∧
  (∀ (f : FuncId) (cs : List aq) (t : Nat), bw C l dst (.gF f cs) t true os none K (.bool true) = cn C dst os K (some (.fn f (fu (I l) cs), I l))) ∧
  (∀ (f : FuncId) (cs : List aq) (t : Nat), bw C l dst (.gF f cs) t false os none K (.bool false) = cn C dst os K (some (.fn f (fu (I l) cs), I l))) ∧
  (∀ (T : TypeId) (x y : aq) (t : Nat), bw C l dst (.e6 T x y) t true os none K (.bool true) = cn C dst os K (bU (I l) (e6 C T (aw (I l) x) (aw (I l) y)))) ∧
  (∀ (T : TypeId) (x y : aq) (t : Nat), bw C l dst (.e6 T x y) t false os none K (.bool false) = cn C dst os K (bU (I l) (e6 C T (aw (I l) x) (aw (I l) y)))) ∧
  (∀ (T : TypeId) (x : aq) (bY ax : Option aq) (t : Nat), bw C l dst (.cU T x bY ax) t true os none K (.bool true) = cn C dst os K (cU C (I l) T (aw (I l) x) (hy (I l) bY) (hy (I l) ax))) ∧
  (∀ (T : TypeId) (x : aq) (bY ax : Option aq) (t : Nat), bw C l dst (.cU T x bY ax) t false os none K (.bool false) = cn C dst os K (cU C (I l) T (aw (I l) x) (hy (I l) bY) (hy (I l) ax))) ∧
  (∀ (T : TypeId) (x : aq) (k : Nat) (t : Nat), bw C l dst (.dn T x k) t true os none K (.bool true) = cn C dst os K (bU (I l) (dn C (I l) T (aw (I l) x) k))) ∧
  (∀ (T : TypeId) (x : aq) (k : Nat) (t : Nat), bw C l dst (.dn T x k) t false os none K (.bool false) = cn C dst os K (bU (I l) (dn C (I l) T (aw (I l) x) k))) ∧
  (∀ (T : TypeId) (x y : aq) (t : Nat), bw C l dst (.dA T x y) t true os none K (.bool true) = cn C dst os K (bU (I l) (dA C (I l) T (aw (I l) x) (aw (I l) y)))) ∧
  (∀ (T : TypeId) (x y : aq) (t : Nat), bw C l dst (.dA T x y) t false os none K (.bool false) = cn C dst os K (bU (I l) (dA C (I l) T (aw (I l) x) (aw (I l) y)))) ∧
  (∀ (T : TypeId) (x y : aq) (t : Nat), bw C l dst (.idx T x y) t true os none K (.bool true) = cn C dst os K (bU (I l) (idx C T (aw (I l) x) (aw (I l) y)))) ∧
  (∀ (T : TypeId) (x y : aq) (t : Nat), bw C l dst (.idx T x y) t false os none K (.bool false) = cn C dst os K (bU (I l) (idx C T (aw (I l) x) (aw (I l) y)))) ∧
  (∀ (x : aq) (k : Nat) (t : Nat), bw C l dst (.ex x k) t true os none K (.bool true) = cn C dst os K (bU (I l) (ex (I l) (aw (I l) x) k))) ∧
  (∀ (x : aq) (k : Nat) (t : Nat), bw C l dst (.ex x k) t false os none K (.bool false) = cn C dst os K (bU (I l) (ex (I l) (aw (I l) x) k))) ∧
  (∀ (T : TypeId) (x : aq) (t : Nat), bw C l dst (.len T x) t true os none K (.bool true) = cn C dst os K (bU (I l) (h7 C (I l) T (aw (I l) x)))) ∧
  (∀ (T : TypeId) (x : aq) (t : Nat), bw C l dst (.len T x) t false os none K (.bool false) = cn C dst os K (bU (I l) (h7 C (I l) T (aw (I l) x)))) ∧
  (∀ (T aU : TypeId) (x y : aq) (t : Nat), bw C l dst (.app T aU x y) t true os none K (.bool true) = cn C dst os K (h9 C (I l) T aU (aw (I l) x) (aw (I l) y))) ∧
  (∀ (T aU : TypeId) (x y : aq) (t : Nat), bw C l dst (.app T aU x y) t false os none K (.bool false) = cn C dst os K (h9 C (I l) T aU (aw (I l) x) (aw (I l) y))) :=
 ⟨fun x _ => (di rfl).trans (congrArg _ (oJ x)), fun x _ => (di rfl).trans (congrArg _ (oJ x)), fun x _ => (di rfl).trans (congrArg _ (oK x)), fun x _ => (di rfl).trans (congrArg _ (oK x)), fun c x y _ => (di rfl).trans (congrArg _ (oL c x y)), fun c x y _ => (di rfl).trans (congrArg _ (oL c x y)), fun T _ => (di rfl).trans (congrArg _ (oM T)), fun T _ => (di rfl).trans (congrArg _ (oM T)), fun T x _ => (di rfl).trans (congrArg _ (oN T x)), fun T x _ => (di rfl).trans (congrArg _ (oN T x)), fun T ps _ => (di rfl).trans (congrArg _ (oO T ps)), fun T ps _ => (di rfl).trans (congrArg _ (oO T ps)), fun T n ps _ => (di rfl).trans (congrArg _ (oP T n ps)), fun T n ps _ => (di rfl).trans (congrArg _ (oP T n ps)), fun T x _ => (di rfl).trans (congrArg _ (oQ T x)), fun T x _ => (di rfl).trans (congrArg _ (oQ T x)), fun T x y _ => (di rfl).trans (congrArg _ (oR T x y)), fun T x y _ => (di rfl).trans (congrArg _ (oR T x y)), fun x _ => (di rfl).trans (congrArg _ (oS x)), fun x _ => (di rfl).trans (congrArg _ (oS x)), fun op T x y _ => (di rfl).trans (congrArg _ (oT op T x y)), fun op T x y _ => (di rfl).trans (congrArg _ (oT op T x y)), fun op x _ => (di rfl).trans (congrArg _ (oU op x)), fun op x _ => (di rfl).trans (congrArg _ (oU op x)), fun A B x _ => (di rfl).trans (congrArg _ (oV A B x)), fun A B x _ => (di rfl).trans (congrArg _ (oV A B x)), fun f cs _ => (di rfl).trans (congrArg _ (oW f cs)), fun f cs _ => (di rfl).trans (congrArg _ (oW f cs)), fun T x y _ => (di rfl).trans (congrArg _ (oX T x y)), fun T x y _ => (di rfl).trans (congrArg _ (oX T x y)), fun T x bY ax _ => (di rfl).trans (congrArg _ (oY T x bY ax)), fun T x bY ax _ => (di rfl).trans (congrArg _ (oY T x bY ax)), fun T x k _ => (di rfl).trans (congrArg _ (oZ T x k)), fun T x k _ => (di rfl).trans (congrArg _ (oZ T x k)), fun T x y _ => (di rfl).trans (congrArg _ (o0 T x y)), fun T x y _ => (di rfl).trans (congrArg _ (o0 T x y)), fun T x y _ => (di rfl).trans (congrArg _ (o1 T x y)), fun T x y _ => (di rfl).trans (congrArg _ (o1 T x y)), fun x k _ => (di rfl).trans (congrArg _ (o2 x k)), fun x k _ => (di rfl).trans (congrArg _ (o2 x k)), fun T x _ => (di rfl).trans (congrArg _ (o3 T x)), fun T x _ => (di rfl).trans (congrArg _ (o3 T x)), fun T aU x y _ => (di rfl).trans (congrArg _ (o4 T aU x y)), fun T aU x y _ => (di rfl).trans (congrArg _ (o4 T aU x y))⟩
theorem FF :
  (∀ (x : aq) (t : Nat), bw C l dst (.cd x) t true os (some a) K (.bool true) = cp C l (t :: use (I l) (.cd x)) (b4 (I l) (.cd x)) dst os a K (some (aw (I l) x, I l))) ∧
  (∀ (x : aq) (t : Nat), bw C l dst (.cd x) t false os (some a) K (.bool false) = cp C l (t :: use (I l) (.cd x)) (b4 (I l) (.cd x)) dst os a K (some (aw (I l) x, I l))) ∧
  (∀ (x : aq) (t : Nat), bw C l dst (.ew x) t true os (some a) K (.bool true) = cp C l (t :: use (I l) (.ew x)) (b4 (I l) (.ew x)) dst os a K (fU (I l) (aw (I l) x))) ∧
  (∀ (x : aq) (t : Nat), bw C l dst (.ew x) t false os (some a) K (.bool false) = cp C l (t :: use (I l) (.ew x)) (b4 (I l) (.ew x)) dst os a K (fU (I l) (aw (I l) x))) ∧
  (∀ (c x y : aq) (t : Nat), bw C l dst (.pick c x y) t true os (some a) K (.bool true) = cp C l (t :: use (I l) (.pick c x y)) (b4 (I l) (.pick c x y)) dst os a K (mm (I l) (aw (I l) c) (aw (I l) x) (aw (I l) y))) ∧
  (∀ (c x y : aq) (t : Nat), bw C l dst (.pick c x y) t false os (some a) K (.bool false) = cp C l (t :: use (I l) (.pick c x y)) (b4 (I l) (.pick c x y)) dst os a K (mm (I l) (aw (I l) c) (aw (I l) x) (aw (I l) y))) ∧
  (∀ (T : TypeId) (t : Nat), bw C l dst (.eH T) t true os (some a) K (.bool true) = cp C l (t :: use (I l) (.eH T)) (b4 (I l) (.eH T)) dst os a K (bU (I l) (eH C T))) ∧
  (∀ (T : TypeId) (t : Nat), bw C l dst (.eH T) t false os (some a) K (.bool false) = cp C l (t :: use (I l) (.eH T)) (b4 (I l) (.eH T)) dst os a K (bU (I l) (eH C T))) ∧
  (∀ (T : TypeId) (x : aq) (t : Nat), bw C l dst (.du T x) t true os (some a) K (.bool true) = cp C l (t :: use (I l) (.du T x)) (b4 (I l) (.du T x)) dst os a K (du (I l) (aw (I l) x))) ∧
  (∀ (T : TypeId) (x : aq) (t : Nat), bw C l dst (.du T x) t false os (some a) K (.bool false) = cp C l (t :: use (I l) (.du T x)) (b4 (I l) (.du T x)) dst os a K (du (I l) (aw (I l) x))) ∧
  (∀ (T : TypeId) (ps : List (Nat × aq)) (t : Nat), bw C l dst (.cI T ps) t true os (some a) K (.bool true) = cp C l (t :: use (I l) (.cI T ps)) (b4 (I l) (.cI T ps)) dst os a K (cI C (I l) T (gA (I l) ps))) ∧
  (∀ (T : TypeId) (ps : List (Nat × aq)) (t : Nat), bw C l dst (.cI T ps) t false os (some a) K (.bool false) = cp C l (t :: use (I l) (.cI T ps)) (b4 (I l) (.cI T ps)) dst os a K (cI C (I l) T (gA (I l) ps))) ∧
  (∀ (T : TypeId) (n : Nat) (ps : List (Nat × aq)) (t : Nat), bw C l dst (.cM T n ps) t true os (some a) K (.bool true) = cp C l (t :: use (I l) (.cM T n ps)) (b4 (I l) (.cM T n ps)) dst os a K (cM C (I l) T n (gA (I l) ps))) ∧
  (∀ (T : TypeId) (n : Nat) (ps : List (Nat × aq)) (t : Nat), bw C l dst (.cM T n ps) t false os (some a) K (.bool false) = cp C l (t :: use (I l) (.cM T n ps)) (b4 (I l) (.cM T n ps)) dst os a K (cM C (I l) T n (gA (I l) ps))) ∧
  (∀ (T : TypeId) (x : aq) (t : Nat), bw C l dst (.cL T x) t true os (some a) K (.bool true) = cp C l (t :: use (I l) (.cL T x)) (b4 (I l) (.cL T x)) dst os a K (bU (I l) (cL C (I l) T (aw (I l) x)))) ∧
  (∀ (T : TypeId) (x : aq) (t : Nat), bw C l dst (.cL T x) t false os (some a) K (.bool false) = cp C l (t :: use (I l) (.cL T x)) (b4 (I l) (.cL T x)) dst os a K (bU (I l) (cL C (I l) T (aw (I l) x)))) ∧
  (∀ (T : TypeId) (x y : aq) (t : Nat), bw C l dst (.dR T x y) t true os (some a) K (.bool true) = cp C l (t :: use (I l) (.dR T x y)) (b4 (I l) (.dR T x y)) dst os a K (hN (dR C (I l) T (aw (I l) x) (aw (I l) y)))) ∧
  (∀ (T : TypeId) (x y : aq) (t : Nat), bw C l dst (.dR T x y) t false os (some a) K (.bool false) = cp C l (t :: use (I l) (.dR T x y)) (b4 (I l) (.dR T x y)) dst os a K (hN (dR C (I l) T (aw (I l) x) (aw (I l) y)))) ∧
  (∀ (x : aq) (t : Nat), bw C l dst (.dU x) t true os (some a) K (.bool true) = cp C l (t :: use (I l) (.dU x)) (b4 (I l) (.dU x)) dst os a K (bU (I l) (dU (I l) (aw (I l) x)))) ∧
  (∀ (x : aq) (t : Nat), bw C l dst (.dU x) t false os (some a) K (.bool false) = cp C l (t :: use (I l) (.dU x)) (b4 (I l) (.dU x)) dst os a K (bU (I l) (dU (I l) (aw (I l) x)))) ∧
  (∀ (op : BinOp) (T : TypeId) (x y : aq) (t : Nat), bw C l dst (.bO op T x y) t true os (some a) K (.bool true) = cp C l (t :: use (I l) (.bO op T x y)) (b4 (I l) (.bO op T x y)) dst os a K (bU (I l) (bO C (I l) op T (aw (I l) x) (aw (I l) y)))) ∧
  (∀ (op : BinOp) (T : TypeId) (x y : aq) (t : Nat), bw C l dst (.bO op T x y) t false os (some a) K (.bool false) = cp C l (t :: use (I l) (.bO op T x y)) (b4 (I l) (.bO op T x y)) dst os a K (bU (I l) (bO C (I l) op T (aw (I l) x) (aw (I l) y)))) ∧
  (∀ (op : UnOp) (x : aq) (t : Nat), bw C l dst (.un op x) t true os (some a) K (.bool true) = cp C l (t :: use (I l) (.un op x)) (b4 (I l) (.un op x)) dst os a K (bU (I l) (un op (aw (I l) x)))) ∧
  (∀ (op : UnOp) (x : aq) (t : Nat), bw C l dst (.un op x) t false os (some a) K (.bool false) = cp C l (t :: use (I l) (.un op x)) (b4 (I l) (.un op x)) dst os a K (bU (I l) (un op (aw (I l) x)))) ∧
  (∀ (A B : TypeId) (x : aq) (t : Nat), bw C l dst (.dv A B x) t true os (some a) K (.bool true) = cp C l (t :: use (I l) (.dv A B x)) (b4 (I l) (.dv A B x)) dst os a K (bU (I l) (dv C (I l) A B (aw (I l) x)))) ∧
  (∀ (A B : TypeId) (x : aq) (t : Nat), bw C l dst (.dv A B x) t false os (some a) K (.bool false) = cp C l (t :: use (I l) (.dv A B x)) (b4 (I l) (.dv A B x)) dst os a K (bU (I l) (dv C (I l) A B (aw (I l) x)))) ∧
  (∀ (f : FuncId) (cs : List aq) (t : Nat), bw C l dst (.gF f cs) t true os (some a) K (.bool true) = cp C l (t :: use (I l) (.gF f cs)) (b4 (I l) (.gF f cs)) dst os a K (some (.fn f (fu (I l) cs), I l))) ∧
  (∀ (f : FuncId) (cs : List aq) (t : Nat), bw C l dst (.gF f cs) t false os (some a) K (.bool false) = cp C l (t :: use (I l) (.gF f cs)) (b4 (I l) (.gF f cs)) dst os a K (some (.fn f (fu (I l) cs), I l))) ∧
  (∀ (T : TypeId) (x y : aq) (t : Nat), bw C l dst (.e6 T x y) t true os (some a) K (.bool true) = cp C l (t :: use (I l) (.e6 T x y)) (b4 (I l) (.e6 T x y)) dst os a K (bU (I l) (e6 C T (aw (I l) x) (aw (I l) y)))) ∧
  (∀ (T : TypeId) (x y : aq) (t : Nat), bw C l dst (.e6 T x y) t false os (some a) K (.bool false) = cp C l (t :: use (I l) (.e6 T x y)) (b4 (I l) (.e6 T x y)) dst os a K (bU (I l) (e6 C T (aw (I l) x) (aw (I l) y)))) ∧
  (∀ (T : TypeId) (x : aq) (bY ax : Option aq) (t : Nat), bw C l dst (.cU T x bY ax) t true os (some a) K (.bool true) = cp C l (t :: use (I l) (.cU T x bY ax)) (b4 (I l) (.cU T x bY ax)) dst os a K (cU C (I l) T (aw (I l) x) (hy (I l) bY) (hy (I l) ax))) ∧
  (∀ (T : TypeId) (x : aq) (bY ax : Option aq) (t : Nat), bw C l dst (.cU T x bY ax) t false os (some a) K (.bool false) = cp C l (t :: use (I l) (.cU T x bY ax)) (b4 (I l) (.cU T x bY ax)) dst os a K (cU C (I l) T (aw (I l) x) (hy (I l) bY) (hy (I l) ax))) ∧
  (∀ (T : TypeId) (x : aq) (k : Nat) (t : Nat), bw C l dst (.dn T x k) t true os (some a) K (.bool true) = cp C l (t :: use (I l) (.dn T x k)) (b4 (I l) (.dn T x k)) dst os a K (bU (I l) (dn C (I l) T (aw (I l) x) k))) ∧
  (∀ (T : TypeId) (x : aq) (k : Nat) (t : Nat), bw C l dst (.dn T x k) t false os (some a) K (.bool false) = cp C l (t :: use (I l) (.dn T x k)) (b4 (I l) (.dn T x k)) dst os a K (bU (I l) (dn C (I l) T (aw (I l) x) k))) ∧
  (∀ (T : TypeId) (x y : aq) (t : Nat), bw C l dst (.dA T x y) t true os (some a) K (.bool true) = cp C l (t :: use (I l) (.dA T x y)) (b4 (I l) (.dA T x y)) dst os a K (bU (I l) (dA C (I l) T (aw (I l) x) (aw (I l) y)))) ∧
  (∀ (T : TypeId) (x y : aq) (t : Nat), bw C l dst (.dA T x y) t false os (some a) K (.bool false) = cp C l (t :: use (I l) (.dA T x y)) (b4 (I l) (.dA T x y)) dst os a K (bU (I l) (dA C (I l) T (aw (I l) x) (aw (I l) y)))) ∧
  (∀ (T : TypeId) (x y : aq) (t : Nat), bw C l dst (.idx T x y) t true os (some a) K (.bool true) = cp C l (t :: use (I l) (.idx T x y)) (b4 (I l) (.idx T x y)) dst os a K (bU (I l) (idx C T (aw (I l) x) (aw (I l) y)))) ∧
  (∀ (T : TypeId) (x y : aq) (t : Nat), bw C l dst (.idx T x y) t false os (some a) K (.bool false) = cp C l (t :: use (I l) (.idx T x y)) (b4 (I l) (.idx T x y)) dst os a K (bU (I l) (idx C T (aw (I l) x) (aw (I l) y)))) ∧
  (∀ (x : aq) (k : Nat) (t : Nat), bw C l dst (.ex x k) t true os (some a) K (.bool true) = cp C l (t :: use (I l) (.ex x k)) (b4 (I l) (.ex x k)) dst os a K (bU (I l) (ex (I l) (aw (I l) x) k))) ∧
  (∀ (x : aq) (k : Nat) (t : Nat), bw C l dst (.ex x k) t false os (some a) K (.bool false) = cp C l (t :: use (I l) (.ex x k)) (b4 (I l) (.ex x k)) dst os a K (bU (I l) (ex (I l) (aw (I l) x) k))) ∧
  (∀ (T : TypeId) (x : aq) (t : Nat), bw C l dst (.len T x) t true os (some a) K (.bool true) = cp C l (t :: use (I l) (.len T x)) (b4 (I l) (.len T x)) dst os a K (bU (I l) (h7 C (I l) T (aw (I l) x)))) ∧
  (∀ (T : TypeId) (x : aq) (t : Nat), bw C l dst (.len T x) t false os (some a) K (.bool false) = cp C l (t :: use (I l) (.len T x)) (b4 (I l) (.len T x)) dst os a K (bU (I l) (h7 C (I l) T (aw (I l) x)))) ∧
  (∀ (T aU : TypeId) (x y : aq) (t : Nat), bw C l dst (.app T aU x y) t true os (some a) K (.bool true) = cp C l (t :: use (I l) (.app T aU x y)) (b4 (I l) (.app T aU x y)) dst os a K (h9 C (I l) T aU (aw (I l) x) (aw (I l) y))) ∧
  (∀ (T aU : TypeId) (x y : aq) (t : Nat), bw C l dst (.app T aU x y) t false os (some a) K (.bool false) = cp C l (t :: use (I l) (.app T aU x y)) (b4 (I l) (.app T aU x y)) dst os a K (h9 C (I l) T aU (aw (I l) x) (aw (I l) y))) :=
 ⟨fun x _ => (dj rfl).trans (congrArg _ (oJ x)), fun x _ => (dj rfl).trans (congrArg _ (oJ x)), fun x _ => (dj rfl).trans (congrArg _ (oK x)), fun x _ => (dj rfl).trans (congrArg _ (oK x)), fun c x y _ => (dj rfl).trans (congrArg _ (oL c x y)), fun c x y _ => (dj rfl).trans (congrArg _ (oL c x y)), fun T _ => (dj rfl).trans (congrArg _ (oM T)), fun T _ => (dj rfl).trans (congrArg _ (oM T)), fun T x _ => (dj rfl).trans (congrArg _ (oN T x)), fun T x _ => (dj rfl).trans (congrArg _ (oN T x)), fun T ps _ => (dj rfl).trans (congrArg _ (oO T ps)), fun T ps _ => (dj rfl).trans (congrArg _ (oO T ps)), fun T n ps _ => (dj rfl).trans (congrArg _ (oP T n ps)), fun T n ps _ => (dj rfl).trans (congrArg _ (oP T n ps)), fun T x _ => (dj rfl).trans (congrArg _ (oQ T x)), fun T x _ => (dj rfl).trans (congrArg _ (oQ T x)), fun T x y _ => (dj rfl).trans (congrArg _ (oR T x y)), fun T x y _ => (dj rfl).trans (congrArg _ (oR T x y)), fun x _ => (dj rfl).trans (congrArg _ (oS x)), fun x _ => (dj rfl).trans (congrArg _ (oS x)), fun op T x y _ => (dj rfl).trans (congrArg _ (oT op T x y)), fun op T x y _ => (dj rfl).trans (congrArg _ (oT op T x y)), fun op x _ => (dj rfl).trans (congrArg _ (oU op x)), fun op x _ => (dj rfl).trans (congrArg _ (oU op x)), fun A B x _ => (dj rfl).trans (congrArg _ (oV A B x)), fun A B x _ => (dj rfl).trans (congrArg _ (oV A B x)), fun f cs _ => (dj rfl).trans (congrArg _ (oW f cs)), fun f cs _ => (dj rfl).trans (congrArg _ (oW f cs)), fun T x y _ => (dj rfl).trans (congrArg _ (oX T x y)), fun T x y _ => (dj rfl).trans (congrArg _ (oX T x y)), fun T x bY ax _ => (dj rfl).trans (congrArg _ (oY T x bY ax)), fun T x bY ax _ => (dj rfl).trans (congrArg _ (oY T x bY ax)), fun T x k _ => (dj rfl).trans (congrArg _ (oZ T x k)), fun T x k _ => (dj rfl).trans (congrArg _ (oZ T x k)), fun T x y _ => (dj rfl).trans (congrArg _ (o0 T x y)), fun T x y _ => (dj rfl).trans (congrArg _ (o0 T x y)), fun T x y _ => (dj rfl).trans (congrArg _ (o1 T x y)), fun T x y _ => (dj rfl).trans (congrArg _ (o1 T x y)), fun x k _ => (dj rfl).trans (congrArg _ (o2 x k)), fun x k _ => (dj rfl).trans (congrArg _ (o2 x k)), fun T x _ => (dj rfl).trans (congrArg _ (o3 T x)), fun T x _ => (dj rfl).trans (congrArg _ (o3 T x)), fun T aU x y _ => (dj rfl).trans (congrArg _ (o4 T aU x y)), fun T aU x y _ => (dj rfl).trans (congrArg _ (o4 T aU x y))⟩
end
theorem yX :
  (∀ (t : Nat) (k : IntKind) (n : Int), fH t (.int k n) = (.int k n)) ∧
  (∀ (t : Nat) (b : Bool), fH t (.bool b) = (.bool b)) ∧
  (∀ (t : Nat) (x : List UInt8), fH t (.str x) = (.str x)) ∧
  (∀ (t : Nat) (xs : List j), fH t (.slice xs) = (.slice xs)) ∧
  (∀ (t : Nat) (d : j), fH t (.ref d) = (.ref d)) ∧
  (∀ (t : Nat) (f : FuncId) (cap : List j), fH t (.fn f cap) = (.fn f cap)) ∧
  (∀ (t : Nat) (x : Nat) (q : List Nat), fH t (.h x q) = (.h x q)) ∧
  (∀ (t : Nat) (x : Nat) (q : List Nat), fH t (.ak x q) = (.ak x q)) ∧
  (∀ (t : Nat) , fH t .b_ = .b_) ∧
  (∀ (t : Nat) , fH t .bu = .bu) ∧
  (∀ (t : Nat) , fH t .c1 = .c1) ∧
  (∀ (t : Nat) , fH t .hole = .hole) ∧
  (∀ (t : Nat) (sz : Nat) (xs : List j), fH t (.aJ sz xs) = .h t []) ∧
  (∀ (t : Nat) (d : j), fH t (.bb d) = .h t []) ∧
  (∀ (t : Nat) (af : List j), fH t (.agg af) = if j.dr af = true then (.agg af) else .h t []) ∧
  (∀ (t : Nat) (af : List j), fH t (.tuple af) = if j.dr af = true then (.tuple af) else .h t []) :=
 ⟨fun _ _ _ => rfl, fun _ _ => rfl, fun _ _ => rfl, fun _ _ => rfl, fun _ _ => rfl, fun _ _ _ => rfl, fun _ _ _ => rfl, fun _ _ _ => rfl, fun _  => rfl, fun _  => rfl, fun _  => rfl, fun _  => rfl, fun _ _ _ => rfl, fun _ _ => rfl, fun _ _ => rfl, fun _ _ => rfl⟩
theorem yY :
  (∀ (l : List (Nat × j)) (av : j), fin (I l) none av = I l) ∧
  (∀ (l : List (Nat × j)) (t : Nat) (k : IntKind) (n : Int), fin (I l) (some t) (.int k n) = I ((t, (.int k n)) :: l)) ∧
  (∀ (l : List (Nat × j)) (t : Nat) (b : Bool), fin (I l) (some t) (.bool b) = I ((t, (.bool b)) :: l)) ∧
  (∀ (l : List (Nat × j)) (t : Nat) (x : List UInt8), fin (I l) (some t) (.str x) = I ((t, (.str x)) :: l)) ∧
  (∀ (l : List (Nat × j)) (t : Nat) (xs : List j), fin (I l) (some t) (.slice xs) = I ((t, (.slice xs)) :: l)) ∧
  (∀ (l : List (Nat × j)) (t : Nat) (d : j), fin (I l) (some t) (.ref d) = I ((t, (.ref d)) :: l)) ∧
  (∀ (l : List (Nat × j)) (t : Nat) (f : FuncId) (cap : List j), fin (I l) (some t) (.fn f cap) = I ((t, (.fn f cap)) :: l)) ∧
  (∀ (l : List (Nat × j)) (t : Nat) (x : Nat) (q : List Nat), fin (I l) (some t) (.h x q) = I ((t, (.h x q)) :: l)) ∧
  (∀ (l : List (Nat × j)) (t : Nat) (x : Nat) (q : List Nat), fin (I l) (some t) (.ak x q) = I ((t, (.ak x q)) :: l)) ∧
  (∀ (l : List (Nat × j)) (t : Nat) , fin (I l) (some t) .b_ = I ((t, .b_) :: l)) ∧
  (∀ (l : List (Nat × j)) (t : Nat) , fin (I l) (some t) .bu = I ((t, .bu) :: l)) ∧
  (∀ (l : List (Nat × j)) (t : Nat) , fin (I l) (some t) .c1 = I ((t, .c1) :: l)) ∧
  (∀ (l : List (Nat × j)) (t : Nat) , fin (I l) (some t) .hole = I ((t, .hole) :: l)) ∧
  (∀ (l : List (Nat × j)) (t : Nat) (sz : Nat) (xs : List j), fin (I l) (some t) (.aJ sz xs) = I ((t, (.aJ sz xs)) :: jP t l)) ∧
  (∀ (l : List (Nat × j)) (t : Nat) (d : j), fin (I l) (some t) (.bb d) = I ((t, (.bb d)) :: jP t l)) ∧
  (∀ (l : List (Nat × j)) (t : Nat) (af : List j), fin (I l) (some t) (.agg af) = I ((t, (.agg af)) :: if j.dr af = true then l else jP t l)) ∧
  (∀ (l : List (Nat × j)) (t : Nat) (af : List j), fin (I l) (some t) (.tuple af) = I ((t, (.tuple af)) :: if j.dr af = true then l else jP t l)) :=
 ⟨fun _ _ => rfl, fun l t _ _ => by simp only [fin, j.plain, if_true, gU], fun l t _ => by simp only [fin, j.plain, if_true, gU], fun l t _ => by simp only [fin, j.plain, if_true, gU], fun l t _ => by simp only [fin, j.plain, if_true, gU], fun l t _ => by simp only [fin, j.plain, if_true, gU], fun l t _ _ => by simp only [fin, j.plain, if_true, gU], fun l t _ _ => by simp only [fin, j.plain, if_true, gU], fun l t _ _ => by simp only [fin, j.plain, if_true, gU], fun l t  => by simp only [fin, j.plain, if_true, gU], fun l t  => by simp only [fin, j.plain, if_true, gU], fun l t  => by simp only [fin, j.plain, if_true, gU], fun l t  => by simp only [fin, j.plain, if_true, gU], fun l t _ _ => by simp only [fin, j.plain, Bool.false_eq_true, if_false, oE, gU], fun l t _ => by simp only [fin, j.plain, Bool.false_eq_true, if_false, oE, gU], fun l t _ => by simp only [fin, j.plain, oE, gU]; split <;> rfl, fun l t _ => by simp only [fin, j.plain, oE, gU]; split <;> rfl⟩
theorem yZ :
  (∀ (k : IntKind) (n : Int), j.plain (.int k n) = true) ∧
  (∀ (b : Bool), j.plain (.bool b) = true) ∧
  (∀ (x : List UInt8), j.plain (.str x) = true) ∧
  (∀ (xs : List j), j.plain (.slice xs) = true) ∧
  (∀ (d : j), j.plain (.ref d) = true) ∧
  (∀ (f : FuncId) (cap : List j), j.plain (.fn f cap) = true) ∧
  (∀ (x : Nat) (q : List Nat), j.plain (.h x q) = true) ∧
  (∀ (x : Nat) (q : List Nat), j.plain (.ak x q) = true) ∧
  (j.plain .b_ = true) ∧
  (j.plain .bu = true) ∧
  (j.plain .c1 = true) ∧
  (j.plain .hole = true) ∧
  (∀ (sz : Nat) (xs : List j), j.plain (.aJ sz xs) = false) ∧
  (∀ (d : j), j.plain (.bb d) = false) ∧
  (∀ (af : List j), j.plain (.agg af) = j.dr af) ∧
  (∀ (af : List j), j.plain (.tuple af) = j.dr af) ∧
  (j.dr [] = true) ∧
  (∀ d ds, j.dr (d :: ds) = (d.plain && j.dr ds)) :=
 ⟨fun _ _ => rfl, fun _ => rfl, fun _ => rfl, fun _ => rfl, fun _ => rfl, fun _ _ => rfl, fun _ _ => rfl, fun _ _ => rfl, rfl, rfl, rfl, rfl, fun _ _ => rfl, fun _ => rfl, fun _ => rfl, fun _ => rfl, rfl, fun _ _ => rfl⟩
theorem y0 :
  (∀ (s : ad) (k : IntKind) (n : Int), fU s (.int k n) = some ((.int k n), s)) ∧
  (∀ (s : ad) (b : Bool), fU s (.bool b) = some ((.bool b), s)) ∧
  (∀ (s : ad) (x : List UInt8), fU s (.str x) = some ((.str x), s)) ∧
  (∀ (s : ad) (xs : List j), fU s (.slice xs) = some ((.slice xs), s)) ∧
  (∀ (s : ad) (d : j), fU s (.ref d) = some ((.ref d), s)) ∧
  (∀ (s : ad) (f : FuncId) (cap : List j), fU s (.fn f cap) = some ((.fn f cap), s)) ∧
  (∀ (s : ad) (x : Nat) (q : List Nat), fU s (.ak x q) = some ((.ak x q), s)) ∧
  (∀ (s : ad) , fU s .b_ = some (.b_, s)) ∧
  (∀ (s : ad) , fU s .bu = some (.bu, s)) ∧
  (∀ (s : ad) , fU s .c1 = some (.c1, s)) ∧
  (∀ (s : ad) , fU s .hole = some (.hole, s)) ∧
  (∀ (s : ad) (sz : Nat) (xs : List j), fU s (.aJ sz xs) = some ((.aJ sz xs), s)) ∧
  (∀ (s : ad) (d : j), fU s (.bb d) = some ((.bb d), s)) ∧
  (∀ (s : ad) (af : List j), fU s (.agg af) = some ((.agg af), s)) ∧
  (∀ (s : ad) (af : List j), fU s (.tuple af) = some ((.tuple af), s)) ∧
  (∀ (s : ad) y q, fU s (.h y q) = bM s (.h y q)) :=
 ⟨fun _ _ _ => rfl, fun _ _ => rfl, fun _ _ => rfl, fun _ _ => rfl, fun _ _ => rfl, fun _ _ _ => rfl, fun _ _ _ => rfl, fun _  => rfl, fun _  => rfl, fun _  => rfl, fun _  => rfl, fun _ _ _ => rfl, fun _ _ => rfl, fun _ _ => rfl, fun _ _ => rfl, fun _ _ _ => rfl⟩
theorem y1 :
  (∀ (t : Nat) (k : IntKind) (n : Int), bI t (.int k n) = (.int k n)) ∧
  (∀ (t : Nat) (b : Bool), bI t (.bool b) = (.bool b)) ∧
  (∀ (t : Nat) (x : List UInt8), bI t (.str x) = (.str x)) ∧
  (∀ (t : Nat) (xs : List j), bI t (.slice xs) = (.slice xs)) ∧
  (∀ (t : Nat) (d : j), bI t (.ref d) = (.ref d)) ∧
  (∀ (t : Nat) , bI t .b_ = .b_) ∧
  (∀ (t : Nat) , bI t .bu = .bu) ∧
  (∀ (t : Nat) , bI t .c1 = .c1) ∧
  (∀ (t : Nat) , bI t .hole = .hole) ∧
  (∀ (t : Nat) (sz : Nat) (xs : List j), bI t (.aJ sz xs) = (.aJ sz xs)) ∧
  (∀ (t : Nat) (d : j), bI t (.bb d) = (.bb d)) ∧
  (∀ (t : Nat) (af : List j), bI t (.agg af) = (.agg af)) ∧
  (∀ (t : Nat) (af : List j), bI t (.tuple af) = (.tuple af)) ∧
  (∀ (t y : Nat) q, bI t (.h y q) = if y = t then .hole else .h y q) ∧
  (∀ (t y : Nat) q, bI t (.ak y q) = if y = t then .hole else .ak y q) ∧
  (∀ (t : Nat) f c, bI t (.fn f c) = .fn f (fG t c)) ∧
  (∀ t, fG t [] = []) ∧
  (∀ t d ds, fG t (d :: ds) = bI t d :: fG t ds) ∧
  (∀ t, jP t [] = []) ∧
  (∀ t u d l, jP t ((u, d) :: l) = (u, bI t d) :: jP t l) ∧
  (∀ t l, hE t (I l) = I (jP t l)) :=
 ⟨fun _ _ _ => by unfold bI; rfl, fun _ _ => by unfold bI; rfl, fun _ _ => by unfold bI; rfl, fun _ _ => by unfold bI; rfl, fun _ _ => by unfold bI; rfl, fun _  => by unfold bI; rfl, fun _  => by unfold bI; rfl, fun _  => by unfold bI; rfl, fun _  => by unfold bI; rfl, fun _ _ _ => by unfold bI; rfl, fun _ _ => by unfold bI; rfl, fun _ _ => by unfold bI; rfl, fun _ _ => by unfold bI; rfl, fun _ _ _ => by unfold bI; rfl, fun _ _ _ => by unfold bI; rfl, fun _ _ _ => by simp only [bI], fun _ => by simp only [fG], fun _ _ _ => by simp only [fG], fun _ => rfl, fun _ _ _ _ => rfl, fun t l => oE t l⟩
theorem y2 :
  (∀ (t : Nat) (k : IntKind) (n : Int), bk t (.int k n) = (.int k n)) ∧
  (∀ (t : Nat) (b : Bool), bk t (.bool b) = (.bool b)) ∧
  (∀ (t : Nat) (x : List UInt8), bk t (.str x) = (.str x)) ∧
  (∀ (t : Nat) (xs : List j), bk t (.slice xs) = (.slice xs)) ∧
  (∀ (t : Nat) (d : j), bk t (.ref d) = (.ref d)) ∧
  (∀ (t : Nat) , bk t .b_ = .b_) ∧
  (∀ (t : Nat) , bk t .bu = .bu) ∧
  (∀ (t : Nat) , bk t .c1 = .c1) ∧
  (∀ (t : Nat) , bk t .hole = .hole) ∧
  (∀ (t : Nat) (sz : Nat) (xs : List j), bk t (.aJ sz xs) = (.aJ sz xs)) ∧
  (∀ (t : Nat) (d : j), bk t (.bb d) = (.bb d)) ∧
  (∀ (t : Nat) (af : List j), bk t (.agg af) = (.agg af)) ∧
  (∀ (t : Nat) (af : List j), bk t (.tuple af) = (.tuple af)) ∧
  (∀ (t y : Nat), bk t (.h y []) = .h y []) ∧
  (∀ (t y k : Nat) q, bk t (.h y (k :: q)) = if y = t then .hole else .h y (k :: q)) ∧
  (∀ (t y : Nat) q, bk t (.ak y q) = if y = t then .hole else .ak y q) ∧
  (∀ (t : Nat) f c, bk t (.fn f c) = .fn f (fl t c)) ∧
  (∀ t, fl t [] = []) ∧
  (∀ t d ds, fl t (d :: ds) = bk t d :: fl t ds) ∧
  (∀ t, nt t [] = []) ∧
  (∀ t u d l, nt t ((u, d) :: l) = (u, bk t d) :: nt t l) ∧
  (∀ t l, fw t (I l) = I (nt t l)) :=
 ⟨fun _ _ _ => by unfold bk; rfl, fun _ _ => by unfold bk; rfl, fun _ _ => by unfold bk; rfl, fun _ _ => by unfold bk; rfl, fun _ _ => by unfold bk; rfl, fun _  => by unfold bk; rfl, fun _  => by unfold bk; rfl, fun _  => by unfold bk; rfl, fun _  => by unfold bk; rfl, fun _ _ _ => by unfold bk; rfl, fun _ _ => by unfold bk; rfl, fun _ _ => by unfold bk; rfl, fun _ _ => by unfold bk; rfl, fun _ _ => by simp [bk], fun _ _ _ _ => by simp [bk], fun _ _ _ => by unfold bk; rfl, fun _ _ _ => by simp only [bk], fun _ => by simp only [fl], fun _ _ _ => by simp only [fl], fun _ => rfl, fun _ _ _ _ => rfl, fun t l => EY t l⟩
def ve : ju → Bool → Option j
 | .bool, b => some (.bool b)
 | _, _ => none
def ny (neg : Bool) : ju → Option (Option Bool) → Option j
 | .slice _, some r => some (pU neg r)
 | _, _ => none
def nz (neg : Bool) : ju → Option Bool → Option j
 | .ptr _, some b => some (.bool (b != neg))
 | _, _ => none
theorem y3 (C : bp) (s : ad) (T : TypeId) :
  (∀ op k a cF b, bO C s op T (.int k a) (.int cF b) = fb op k a cF b) ∧
  (∀ op a b, bO C s op T (.str a) (.str b) = i6 op a b) ∧
  (∀ a b, bO C s .eql T (.bool a) (.bool b) = ve (C.T T).k (a == b)) ∧
  (∀ a b, bO C s .neq T (.bool a) (.bool b) = ve (C.T T).k (!(a == b))) ∧
  (∀ xs, bO C s .eql T (.slice xs) .bu = ny false (C.T T).k (hk s (.slice xs))) ∧
  (∀ xs, bO C s .neq T (.slice xs) .bu = ny true (C.T T).k (hk s (.slice xs))) ∧
  (bO C s .eql T .bu .bu = ny false (C.T T).k (hk s .bu)) ∧
  (bO C s .neq T .bu .bu = ny true (C.T T).k (hk s .bu)) ∧
  (∀ x q, bO C s .eql T (.h x q) .bu = ny false (C.T T).k (hk s (.h x q))) ∧
  (∀ x q, bO C s .neq T (.h x q) .bu = ny true (C.T T).k (hk s (.h x q))) ∧
  (∀ x q, bO C s .eql T (.h x q) .b_ = nz false (C.T T).k (hn s (.h x q))) ∧
  (∀ x q, bO C s .neq T (.h x q) .b_ = nz true (C.T T).k (hn s (.h x q))) ∧
  (∀ d, bO C s .eql T (.ref d) .b_ = nz false (C.T T).k (hn s (.ref d))) ∧
  (∀ d, bO C s .neq T (.ref d) .b_ = nz true (C.T T).k (hn s (.ref d))) ∧
  (bO C s .eql T .b_ .b_ = nz false (C.T T).k (hn s .b_)) ∧
  (bO C s .neq T .b_ .b_ = nz true (C.T T).k (hn s .b_)) := by
 refine ⟨?_, ?_, ?_, ?_, ?_, ?_, ?_, ?_, ?_, ?_, ?_, ?_, ?_, ?_, ?_, ?_⟩ <;> intros <;> first
  | rfl
  | (simp only [bO]
     generalize (C.T T).k = h4
     cases h4 <;> first | rfl | (simp only [ny]; generalize hk s _ = v; cases v <;> rfl) | (simp only [nz]; generalize hn s _ = v; cases v <;> (try (rename_i b; cases b)) <;> rfl))
theorem y4 (k : IntKind) (a b : Int) :
  fb .add k a k b = some (.int k (k.wrap (a + b))) ∧ fb .sub k a k b = some (.int k (k.wrap (a - b))) ∧ fb .mul k a k b = some (.int k (k.wrap (a * b))) ∧
  fb .eql k a k b = some (.bool (a == b)) ∧ fb .neq k a k b = some (.bool (a != b)) ∧ fb .lss k a k b = some (.bool (decide (a < b))) ∧ fb .leq k a k b = some (.bool (decide (a ≤ b))) ∧
  fb .gtr k a k b = some (.bool (decide (b < a))) ∧ fb .geq k a k b = some (.bool (decide (b ≤ a))) ∧
  fb .and k a k b = some (.int k (bitsOf .and k a b)) ∧ fb .or k a k b = some (.int k (bitsOf .or k a b)) ∧ fb .xor k a k b = some (.int k (bitsOf .xor k a b)) ∧ fb .andNot k a k b = some (.int k (bitsOf .andNot k a b)) := by
 simp [fb]
theorem FG {k : IntKind} {a b : Int} (h : b ≠ 0) : fb .quo k a k b = some (.int k (k.wrap (a.tdiv b))) := by simp [fb, h]
theorem FH {k : IntKind} {a b : Int} (h : b ≠ 0) : fb .rem k a k b = some (.int k (a.tmod b)) := by simp [fb, h]
theorem FI {k cF : IntKind} {a b : Int} (h : ¬ b < 0) : fb .shl k a cF b = some (.int k (k.wrap (a * 2 ^ (min b.toNat k.bits)))) := by simp [fb, h]
theorem y5 (a b : List UInt8) :
  i6 .eql a b = some (.bool (a == b)) ∧ i6 .neq a b = some (.bool !(a == b)) ∧ i6 .lss a b = some (.bool (Op.bytesLess a b)) ∧
  i6 .leq a b = some (.bool (Op.bytesLess a b || a == b)) ∧ i6 .gtr a b = some (.bool !(Op.bytesLess a b || a == b)) ∧ i6 .geq a b = some (.bool !(Op.bytesLess a b)) := by
 refine ⟨rfl, rfl, rfl, rfl, rfl, rfl⟩
theorem y6 : (∀ b, un .not (.bool b) = some (.bool !b)) ∧ (un .not .c1 = some .c1) ∧ (∀ k n, un .neg (.int k n) = some (.int k (k.wrap (0 - n)))) := ⟨fun _ => rfl, rfl, fun _ _ => rfl⟩
def vf : ju → Option UInt8 → Option j
 | .str, some c => some (.int .u8 c.toNat)
 | _, _ => none
theorem y7 (C : bp) (T : TypeId) (l : List UInt8) (k : IntKind) (n : Int) : idx C T (.str l) (.int k n) = vf (C.T T).k (cE l n) := by
 simp only [idx, cE]
 generalize (C.T T).k = h4
 cases h4 <;> first | rfl | (simp only [vf]; split <;> first | rfl | (cases l[n.toNat]? <;> rfl))
def vg (C : bp) : ju → Option j → Option j
 | .slice e, some d => if (C.T e).ok = true ∧ d.wd = (C.T e).sz then some (.ref d) else none
 | _, _ => none
theorem y8 (C : bp) (s : ad) (T : TypeId) (xs : List j) (k : IntKind) (n : Int) : dA C s T (.slice xs) (.int k n) = vg C (C.T T).k (cE xs n) := by
 simp only [dA, cE]
 generalize (C.T T).k = h4
 cases h4 <;> first | rfl | skip
 simp only [vg]
 by_cases bz : 0 ≤ n
 ·simp only [bz, true_and, if_true]
  split
  ·cases xs[n.toNat]? <;> simp [*]
  ·cases xs[n.toNat]? <;> simp [*]
 ·simp only [bz, false_and, if_false]
def qB (C : bp) (y : Nat) (q : List Nat) (n : Int) : ju → Option j → Option j
 | .slice e, some (.aJ sz xs) => if (cE xs n).isSome = true ∧ (C.T e).ok = true ∧ sz = (C.T e).sz then some (.ak y (q ++ [n.toNat])) else none
 | _, _ => none
theorem y9 (C : bp) (s : ad) (T : TypeId) (y : Nat) (q : List Nat) (k : IntKind) (n : Int) : dA C s T (.h y q) (.int k n) = qB C y q n (C.T T).k (j.sub q (s y)) := by
 simp only [dA]
 generalize (C.T T).k = h4
 cases h4 <;> first | rfl | skip
 rename_i e
 cases R : j.sub q (s y) with
 | none => simp [qB]
 | some d =>
   cases d <;> first
    | (simp [qB]; done)
    | skip
   rename_i sz xs
   have aT : (cE xs n).isSome = true ↔ 0 ≤ n ∧ n.toNat < xs.length := by
    unfold cE; split <;> simp_all <;> omega
   simp only [qB, aT]
   by_cases bz : 0 ≤ n <;> by_cases U : (C.T e).ok = true <;> simp [bz, U]
def o5 : ju → ad → Option (List UInt8) → Option (j × ad)
 | .str, s, some t => some (.str t, s)
 | _, _, _ => none
def o6 (C : bp) : ju → ad → List j → Option (List j) → Option (j × ad)
 | .slice e, s, xs, some t => if (C.T e).ok = true ∧ ∀ d ∈ xs, d.wd = (C.T e).sz then some (.slice t, s) else none
 | _, _, _, _ => none
theorem y_ (C : bp) (s : ad) (T : TypeId) (l : List UInt8) :
  (∀ k a cF b, cU C s T (.str l) (some (.int k a)) (some (.int cF b)) = o5 (C.T T).k s (eh l a b)) ∧
  (∀ cF b, cU C s T (.str l) none (some (.int cF b)) = o5 (C.T T).k s (eh l 0 b)) ∧
  (∀ k a, cU C s T (.str l) (some (.int k a)) none = o5 (C.T T).k s (eh l a l.length)) := by
 have e : ∀ (bY ax : Option j) (a b : Int), (dE 0 bY = if 0 ≤ a then some a.toNat else none) → (dE l.length ax = if 0 ≤ b then some b.toNat else none) → cU C s T (.str l) bY ax = o5 (C.T T).k s (eh l a b) := by
  intro bY ax a b U aa
  simp only [cU]
  generalize (C.T T).k = h4
  cases h4 <;> first | rfl | skip
  simp only [U, aa, eh]
  by_cases bB : 0 ≤ a <;> by_cases J : 0 ≤ b <;> simp only [bB, J, if_true, if_false, o5, true_and, false_and]
  ·by_cases ag : a ≤ b ∧ b ≤ l.length
   ·rw [if_pos ⟨by omega, by omega⟩, if_pos ag]
   ·rw [if_neg (fun h => ag ⟨by omega, by omega⟩), if_neg ag]
  ·rw [if_neg (by omega)]
 exact ⟨fun k a cF b => e _ _ a b rfl rfl, fun cF b => e _ _ 0 b rfl rfl, fun k a => e _ _ a l.length rfl (by simp [dE])⟩
theorem za (C : bp) (s : ad) (T : TypeId) (xs : List j) :
  (∀ k a cF b, cU C s T (.slice xs) (some (.int k a)) (some (.int cF b)) = o6 C (C.T T).k s xs (eh xs a b)) ∧
  (∀ cF b, cU C s T (.slice xs) none (some (.int cF b)) = o6 C (C.T T).k s xs (eh xs 0 b)) ∧
  (∀ k a, cU C s T (.slice xs) (some (.int k a)) none = o6 C (C.T T).k s xs (eh xs a xs.length)) := by
 have e : ∀ (bY ax : Option j) (a b : Int), (dE 0 bY = if 0 ≤ a then some a.toNat else none) → (dE xs.length ax = if 0 ≤ b then some b.toNat else none) → cU C s T (.slice xs) bY ax = o6 C (C.T T).k s xs (eh xs a b) := by
  intro bY ax a b U aa
  simp only [cU]
  generalize (C.T T).k = h4
  cases h4 <;> first | rfl | skip
  simp only [U, aa, eh]
  by_cases bB : 0 ≤ a <;> by_cases J : 0 ≤ b <;> simp only [bB, J, if_true, if_false, o6, true_and, false_and]
  ·by_cases ag : a ≤ b ∧ b ≤ xs.length
   ·rw [if_pos ag]
    have U : a.toNat ≤ b.toNat := by omega
    have aa : b.toNat ≤ xs.length := by omega
    simp only [U, aa, true_and]
   ·rw [if_neg (fun h => ag ⟨by omega, by omega⟩), if_neg ag]
  ·rw [if_neg (by omega)]
 exact ⟨fun k a cF b => e _ _ a b rfl rfl, fun cF b => e _ _ 0 b rfl rfl, fun k a => e _ _ a xs.length rfl (by simp [dE])⟩
def qC (q : List Nat) : Option j → Option j
 | some d => j.sub q d
 | none => none
theorem zb : (∀ d, j.sub [] d = some d) ∧ (∀ k q af, j.sub (k :: q) (.agg af) = qC q af[k]?) ∧ (∀ k q af, j.sub (k :: q) (.tuple af) = qC q af[k]?) ∧ (∀ k q sz xs, j.sub (k :: q) (.aJ sz xs) = qC q xs[k]?) ∧
  (∀ q d, j.sub (0 :: q) (.bb d) = j.sub q d) ∧ (∀ q d, qC q (some d) = j.sub q d) ∧
  (∀ k q a b, j.sub (k :: q) (.int a b) = none) := by
 refine ⟨fun d => by simp [j.sub], ?_, ?_, ?_, fun q d => by simp [j.sub], fun _ _ => rfl, fun _ _ _ _ => by simp [j.sub]⟩
 ·intro k q af; simp only [j.sub]; cases af[k]? <;> rfl
 ·intro k q af; simp only [j.sub]; cases af[k]? <;> rfl
 ·intro k q sz af; simp only [j.sub]; cases af[k]? <;> rfl
def zc (k : Nat) (q : List Nat) (n : j) (af : List j) : Option j → j
 | some d => .agg (af.set k (j.put q n d))
 | none => .agg af
def zd (k : Nat) (q : List Nat) (n : j) (af : List j) : Option j → j
 | some d => .tuple (af.set k (j.put q n d))
 | none => .tuple af
def ze (k : Nat) (q : List Nat) (n : j) (sz : Nat) (xs : List j) : Option j → j
 | some d => .aJ sz (xs.set k (j.put q n d))
 | none => .aJ sz xs
theorem zf : (∀ n d, j.put [] n d = n) ∧ (∀ k q n af, j.put (k :: q) n (.agg af) = zc k q n af af[k]?) ∧ (∀ k q n af, j.put (k :: q) n (.tuple af) = zd k q n af af[k]?) ∧
  (∀ k q n sz xs, j.put (k :: q) n (.aJ sz xs) = ze k q n sz xs xs[k]?) ∧ (∀ q n d, j.put (0 :: q) n (.bb d) = .bb (j.put q n d)) ∧
  (∀ k q n af d, zc k q n af (some d) = .agg (af.set k (j.put q n d))) ∧ (∀ k q n af d, zd k q n af (some d) = .tuple (af.set k (j.put q n d))) ∧
  (∀ k q n sz xs d, ze k q n sz xs (some d) = .aJ sz (xs.set k (j.put q n d))) := by
 refine ⟨fun n d => by simp [j.put], ?_, ?_, ?_, fun q n d => by simp [j.put], fun _ _ _ _ _ => rfl, fun _ _ _ _ _ => rfl, fun _ _ _ _ _ _ => rfl⟩
 ·intro k q n af; simp only [j.put]; cases af[k]? <;> rfl
 ·intro k q n af; simp only [j.put]; cases af[k]? <;> rfl
 ·intro k q n sz af; simp only [j.put]; cases af[k]? <;> rfl
theorem vh : (∀ k n, j.wd (.int k n) = 1) ∧ (∀ b, j.wd (.bool b) = 1) ∧ (∀ x, j.wd (.str x) = 1) ∧ (∀ x, j.wd (.slice x) = 1) ∧ (∀ n x, j.wd (.aJ n x) = 1) ∧ (∀ x, j.wd (.ref x) = 1) ∧ (∀ x, j.wd (.bb x) = 1) ∧
  j.wd .bu = 1 ∧ j.wd .b_ = 1 ∧ j.wd .hole = 1 ∧ j.wd .c1 = 1 ∧ (∀ x y, j.wd (.h x y) = 1) ∧ (∀ x y, j.wd (.ak x y) = 1) ∧ (∀ x y, j.wd (.fn x y) = 1) ∧ (∀ af, j.wd (.agg af) = j.cz af) ∧ (∀ af, j.wd (.tuple af) = j.cz af) ∧ j.cz [] = 0 ∧ (∀ d ds, j.cz (d :: ds) = d.wd + j.cz ds) := by
 simp [j.wd, j.cz]
theorem FJ {α : Type} {e : α → j} {n : Nat} (h : ∀ x, (e x).wd = n) (xs : List α) : (∀ d ∈ xs.map e, d.wd = n) = True := by
 simp only [List.mem_map, eq_iff_iff, iff_true]
 rintro d ⟨x, _, rfl⟩; exact h x
theorem FK (C : bp) (s : ad) (A B : TypeId) (k cF : IntKind) (n : Int) (fz : (C.T A).ok = true) (ej : (C.T B).k = .int cF) : dv C s A B (.int k n) = some (.int cF (cF.wrap n)) := by
 simp only [dv, fz, ej, if_true]
theorem zg (m : Int) : fy (c0 m) = .int .u8 (IntKind.u8.wrap m) := by
 have h : 0 ≤ IntKind.u8.wrap m ∧ IntKind.u8.wrap m < 256 := by rw [IntKind.wrap_u8]; omega
 simp only [fy, c0, UInt8.toNat_ofNat']
 congr 1
 omega
theorem vi (m : Int) : ((c0 m).toNat : Int) = IntKind.u8.wrap m := by
 have h := zg m
 simpa [fy] using h
section
variable {C : bp} {l : List (Nat × j)} {Q : Exit → ad → Prop} {s : ad}
theorem o7 {ros : List bm} {k : List Nat} (h : bF C (I l) ros none (fun _ s => Q .normal (I (fT k s)))) : cg C (.aA ros (some k)) Q (I l) := sa (fun _ _ h => h) h
theorem FL {a b : ae} (h : ∀ cR : Exit → ad → Prop, (∀ s, dS (cg C b Q) s → cR .normal s) → (∀ s, Q .ret s → cR .ret s) → (∀ i s, Q (.exit i) s → cR (.exit i) s) → cg C a cR s) : cg C (.seq a b) Q s :=
 h _ (fun _ h => h) (fun _ h => h) (fun _ _ h => h)
theorem dD {ros : List bm} {k : List Nat} {b : ae} (h : bF C (I l) ros none (fun _ s => cg C b Q (I (fT k s)))) : cg C (.seq (.aA ros (some k)) b) Q (I l) := sa (fun _ _ h => .inl h) h
theorem hO {ros : List bm} {el : List (List Nat)} {k : List Nat} {b : ae} (hlen : el.length = ros.length) (h : bF C (I l) ros (some []) (fun acc s => iQ (oI el) 0 [] (acc.getD []).reverse = true ∧ cg C b Q (I (fT k s)))) :
  cg C (.seq (.fS ros el (some k)) b) Q (I l) := Fv (K := fun s => dS (cg C b Q) (I (fT k s))) hlen (by
   have key : ∀ (os : List bm) (s : ad) (acc : Option (List de)), bF C s os acc (fun acc s => iQ (oI el) 0 [] (acc.getD []).reverse = true ∧ cg C b Q (I (fT k s))) →
     bF C s os acc (fun acc s => iQ (oI el) 0 [] (acc.getD []).reverse = true ∧ dS (cg C b Q) (I (fT k s))) := by
    intro os
    induction os with
    | nil => intro s acc h; exact ⟨h.1, .inl h.2⟩
    | cons o os ih =>
      intro s acc h
      have mono : ∀ {s : ad} {aV : dH} {K b6 : List Nat → j → ad → Prop}, (∀ a b c, K a b c → b6 a b c) → kl C s aV K → kl C s aV b6 := by
       intro s aV K b6 ah h
       cases aV with
       | call f args =>
         obtain ⟨g, caps, ps, r, U, dV, aa, au, aK, a1, bN, bS, df⟩ := h
         exact ⟨g, caps, ps, r, U, dV, aa, au, aK, a1, bN, bS, ah _ _ _ df⟩
       | shr aV => obtain ⟨av, s1, U, aa, au, aK⟩ := h; exact ⟨av, s1, U, aa, au, ah _ _ _ aK⟩
       | iJ f args u x =>
         obtain ⟨bn, bs, g, caps, ps, r, U, dV, aa, au, aK, a1, bN, bS, df, e1, eK⟩ := h
         exact ⟨bn, bs, g, caps, ps, r, U, dV, aa, au, aK, a1, bN, bS, df, e1, ah _ _ _ eK⟩
       | iK f args us =>
         obtain ⟨bs, g, caps, ps, r, U, dV, aa, au, aK, a1, bN, bS, df, e1⟩ := h
         exact ⟨bs, g, caps, ps, r, U, dV, aa, au, aK, a1, bN, bS, df, ah _ _ _ e1⟩
       | _ => obtain ⟨av, s1, U, aa⟩ := h; exact ⟨av, s1, U, ah _ _ _ aa⟩
      simp only [bF, jQ] at h ⊢
      split
      ·rename_i aT; rw [aT] at h; exact mono (fun _ _ _ => ih _ _) h
      ·rename_i t dk aT
       rw [aT] at h
       simp only at h
       split
       ·rename_i Ou R
        rw [R] at h
        simp only at h
        split
        ·rename_i J; rw [if_pos J] at h; exact mono (fun _ _ _ => ih _ _) h
        ·rename_i J; rw [if_neg J] at h; exact ih _ _ h
       ·rename_i R; rw [R] at h; exact ih _ _ h
       ·rename_i U aa
        split at h
        ·exact U _ (by assumption)
        ·exact aa (by assumption)
        ·exact h
   exact key _ _ _ h)
theorem lu {c : aq} {a b : ae} (ag : aw s c = .bool true) (h : cg C a Q s) : cg C (.cond c a b) Q s := by simp only [cg, ag, if_true]; exact h
theorem qD {c : aq} {a b : ae} (ag : aw s c = .bool false) (h : cg C b Q s) : cg C (.cond c a b) Q s := by simp only [cg, ag]; exact h
theorem FM {id : Nat} {b : ae} (h : ∀ cR : Exit → ad → Prop, (∀ s, Q .normal s → cR .normal s) → (∀ s, Q .ret s → cR .ret s) → (∀ s, Q .normal s → cR (.exit id) s) → (∀ i s, i ≠ id → Q (.exit i) s → cR (.exit i) s) → cg C b cR s) : cg C (.block id b) Q s :=
 h (oz id Q) (fun _ h => h) (fun _ h => h) (fun s h => by simp only [oz, if_true]; exact h) (fun i s ax h => by simp only [oz, if_neg ax]; exact h)
theorem hP {id : Nat} (h : Q (.exit id) s) : cg C (.exit id) Q s := h
theorem b1 (h : Q .ret s) : cg C .ret Q s := h
theorem cB (h : Q .normal s) : cg C .skip Q s := h
def gd (C : bp) (b : ae) (Q : Exit → ad → Prop) (s : ad) : Prop := ∀ Z : ad → Prop, (∀ aj, cg C b (andThen (dS Z) Q) aj → Z aj) → Z s
theorem hQ {b : ae} (h : dS (gd C b Q) s) : cg C (.loop b) Q s := h
theorem FN {b : ae} (h : ∀ cR : Exit → ad → Prop, (∀ s, dS (gd C b Q) s → cR .normal s) → (∀ s, Q .ret s → cR .ret s) → (∀ i s, Q (.exit i) s → cR (.exit i) s) → cg C b cR s) : gd C b Q s := by
 intro Z oB
 refine oB s (yt b ?_ (h (andThen (dS (gd C b Q)) Q) (fun _ h => h) (fun _ h => h) (fun _ _ h => h)))
 intro e aj aX
 cases e with
 | normal => exact oA (fun s h => h Z oB) aj aX
 | _ => exact aX
theorem dN {cP : List (Nat × j)} (h : cP.map (·.2) = cP.map fun p => s p.1) : qt s cP := by
 intro p ak
 left
 induction cP with
 | nil => cases ak
 | cons a cP ih =>
   simp only [List.map_cons, List.cons.injEq] at h
   rcases List.mem_cons.1 ak with rfl | ak
   ·exact h.1
   ·exact ih h.2 ak
end
section
variable {C : bp} {l : List (Nat × j)} {Q : Exit → ad → Prop} {s : ad} {os ros : List bm} {K : Option (List de) → ad → Prop} {dst : Option Nat}
theorem zh (l : List (Nat × j)) : (∀ n, aw (I l) (.t n) = fH n (I l n)) ∧ (∀ av, aw (I l) (.c av) = av) ∧ (∀ g, aw (I l) (.f g) = .fn g []) := ⟨fun _ => rfl, fun _ => rfl, fun _ => rfl⟩
theorem zi : (∀ t, I [] t = .hole) ∧ (∀ u d (l : List (Nat × j)) t, I ((u, d) :: l) t = if t = u then d else I l t) := ⟨fun _ => rfl, fun _ _ _ _ => rfl⟩
theorem zj (s : ad) : fT [] s = [] ∧ (∀ t k, fT (t :: k) s = (t, s t) :: fT k s) := ⟨rfl, fun _ _ => rfl⟩
theorem zk (s : ad) : (∀ d, bU s (some d) = some (d, s)) ∧ (∀ s1, hN (some s1) = some (.hole, s1)) ∧ fu s [] = [] ∧ (∀ x xs, fu s (x :: xs) = aw s x :: fu s xs) ∧ gA s [] = [] ∧ (∀ k x xs, gA s ((k, x) :: xs) = (k, aw s x) :: gA s xs) ∧
  hy s none = none ∧ (∀ x, hy s (some x) = some (aw s x)) ∧ (∀ b x y, mm s (.bool b) x y = some (if b = true then x else y, s)) :=
 ⟨fun _ => rfl, fun _ => rfl, rfl, fun _ _ => rfl, rfl, fun _ _ _ => rfl, rfl, fun _ => rfl, fun b _ _ => by cases b <;> rfl⟩
theorem zl (C : bp) : (∀ e d, vg C (.slice e) (some d) = if (C.T e).ok = true ∧ d.wd = (C.T e).sz then some (.ref d) else none) ∧
  (∀ y q n e sz xs, qB C y q n (.slice e) (some (.aJ sz xs)) = if (cE xs n).isSome = true ∧ (C.T e).ok = true ∧ sz = (C.T e).sz then some (.ak y (q ++ [n.toNat])) else none) ∧
  (∀ e s xs t, o6 C (.slice e) s xs (some t) = if (C.T e).ok = true ∧ ∀ d ∈ xs, d.wd = (C.T e).sz then some (.slice t, s) else none) :=
 ⟨fun _ _ => rfl, fun _ _ _ _ _ _ => rfl, fun _ _ _ _ => rfl⟩
theorem zm : (∀ b, ve .bool b = some (.bool b)) ∧ (∀ c, vf .str (some c) = some (.int .u8 c.toNat)) ∧ (∀ s t, o5 .str s (some t) = some (.str t, s)) ∧ (∀ q d, qC q (some d) = j.sub q d) :=
 ⟨fun _ => rfl, fun _ => rfl, fun _ _ => rfl, fun _ _ => rfl⟩
theorem zn (sz bytes : Nat) (z : j) : (∀ k, dT.ok ⟨.int k, sz, bytes, z⟩ = true) ∧ dT.ok ⟨.bool, sz, bytes, z⟩ = true ∧ dT.ok ⟨.str, sz, bytes, z⟩ = true ∧ (∀ e, dT.ok ⟨.ptr e, sz, bytes, z⟩ = true) ∧ (∀ e, dT.ok ⟨.slice e, sz, bytes, z⟩ = true) ∧ (∀ e, dT.ok ⟨.struct e, sz, bytes, z⟩ = true) ∧ dT.ok ⟨.fn, sz, bytes, z⟩ = true := by
 simp [dT.ok]
theorem zo (sz bytes : Nat) (z : j) : (∀ k, dT.flat ⟨.int k, sz, bytes, z⟩ = true) ∧ dT.flat ⟨.bool, sz, bytes, z⟩ = true ∧ dT.flat ⟨.str, sz, bytes, z⟩ = true ∧ (∀ e, dT.flat ⟨.ptr e, sz, bytes, z⟩ = true) ∧ (∀ e, dT.flat ⟨.slice e, sz, bytes, z⟩ = true) ∧ (∀ e, dT.flat ⟨.struct e, sz, bytes, z⟩ = false) ∧ dT.flat ⟨.fn, sz, bytes, z⟩ = true := by
 simp [dT.flat]
theorem qE (c : UInt8) (k : IntKind) (ah : k ≠ .i8) : k.wrap (c.toNat : Int) = (c.toNat : Int) := by
 have := c.toNat_lt
 cases k <;> first | (exact (ah rfl).elim) | (simp [IntKind.wrap, IntKind.bits, IntKind.signed]; try omega)
theorem vj (c : UInt8) : IntKind.i64.wrap (c.toNat : Int) = (c.toNat : Int) ∧ IntKind.u64.wrap (c.toNat : Int) = (c.toNat : Int) ∧ IntKind.u8.wrap (c.toNat : Int) = (c.toNat : Int) ∧ IntKind.i32.wrap (c.toNat : Int) = (c.toNat : Int) ∧ IntKind.u32.wrap (c.toNat : Int) = (c.toNat : Int) :=
 ⟨qE c _ (by simp), qE c _ (by simp), qE c _ (by simp), qE c _ (by simp), qE c _ (by simp)⟩
theorem c9 {k : List Nat} {K : ad → Prop} (cP : List (Nat × j)) (h : ∀ P : List (Nat × j) → Prop, P cP → bF C (I l) ros none (fun _ s => P (fT k s))) (ah : K (I cP)) : bF C (I l) ros none (fun _ s => K (I (fT k s))) :=
 h (fun l => K (I l)) ah
theorem hR {k : List Nat} {iR : List (List Nat)} {K : ad → Prop} (cP : List (Nat × j)) (h : ∀ P : List (Nat × j) → Prop, P cP → bF C (I l) ros (some []) (fun acc s => iQ iR 0 [] (acc.getD []).reverse = true ∧ P (fT k s))) (ah : K (I cP)) :
  bF C (I l) ros (some []) (fun acc s => iQ iR 0 [] (acc.getD []).reverse = true ∧ K (I (fT k s))) :=
 h (fun l => K (I l)) ah
theorem b5.FO (aM : C.c3) {f : FuncId} {fn : Func} {c : Code} {dd : ae} {fx : List Nat} {as outs : List j} {r : j} (bo : C.P.funcs[f]? = some fn) (J : fn.body = some c)
  (ie : (fn.name == "runtime.NumGoroutine") = false) (R : cC ⟨fn.ntmps, fx⟩ c = some dd.strip) (aO : as.length ≤ fn.ntmps)
  (h : ∀ Q : Exit → ad → Prop, (∀ s, dS (Ends C fx fn.results.toList r outs) s → Q .ret s) → (∀ s, dS (Ends C fx fn.results.toList r outs) s → Q .normal s) → cg C dd Q (I (num 0 as))) (ak : dd.plain = true := by kernel_rfl) : b5 C f as r outs := by
 refine b5.of_wp aM bo J ie R aO ?_ ak
 rw [yB]
 exact h _ (fun s h => ⟨.inr rfl, h⟩) (fun s h => ⟨.inl rfl, h⟩)
def zp : List j → j
 | [d] => d
 | ds => .tuple ds
theorem sg {fx : List Nat} {dB : List ResultVar} {r : j} {outs : List j} (ds : List j) (U : dB.map (lp C s) = ds.map some) (aa : r = zp ds) (au : (dB.map f_).Nodup)
  (aK : ∀ (i : Nat) (o : j), outs[i]? = some o → o = .hole ∨ (o = s i ∧ o.dK = true ∧ i ∈ fx ∧ i ∉ dB.map f_)) : Ends C fx dB r outs s := ⟨ds, U, by subst aa; cases ds with | nil => rfl | cons a t => cases t <;> rfl, au, aK⟩
theorem FP {fx : List Nat} {dB : List ResultVar} : ∀ (i : Nat) (o : j), ([] : List j)[i]? = some o → o = .hole ∨ (o = s i ∧ o.dK = true ∧ i ∈ fx ∧ i ∉ dB.map f_) := fun i o h => by simp at h
theorem zq : ∀ (as ds : List j), (ig as ds).filter (·.g) = []
 | [], _ => rfl
 | _ :: _, [] => rfl
 | a :: as, d :: ds => by simp only [ig, List.filter_cons]; exact zq as ds
theorem si {f : aq} {args : List aq} {g : FuncId} {caps : List j} {K : List Nat → j → ad → Prop} (ds : List j) (r : j)
  (U : aw (I l) f = .fn g caps) (dV : j.dr caps = true) (fR : views (I l) (fu (I l) args ++ caps) = some ds)
  (a1 : b5 C g ds r []) (bN : r.res = true) (bS : j.cJ (fu (I l) args ++ caps) = [] ∨ r.c6 = true) (hv : K [] r (I l)) : kl C (I l) (.call f args) K := by
 obtain ⟨aE, aI, bg, bX, b0, bh, bc⟩ := EZ _ _ fR
 refine ⟨g, caps, ig (fu (I l) args ++ caps) ds, r, U, dV, by rw [aE, sf], fun p ak => (bg p ak).1, bX, by rw [aI]; exact a1.outs b0.symm, bN, ?_, by rw [bh, bc, zq]; exact hv⟩
 intro hl
 refine ⟨?_, fun p ak => by rw [(bg p ak).2.2.1]; rfl⟩
 rcases bS with bS | bS
 ·exfalso
  simp only [gS, List.any_eq_true] at hl
  obtain ⟨p, ak, eG⟩ := hl
  have hm := (bg p ak).2.2.2
  have : p.a.R = [] := by
   have key : ∀ (as : List j) (a : j), a ∈ as → j.cJ as = [] → a.R = [] := by
    intro as
    induction as with
    | nil => intro a h; cases h
    | cons b as ih =>
      intro a h he
      simp only [j.cJ, List.append_eq_nil_iff] at he
      rcases List.mem_cons.1 h with rfl | h
      ·exact he.1
      ·exact ih a h he.2
   exact key _ _ hm bS
  rw [this] at eG; simp at eG
 ·exact bS
theorem fV {f : aq} {args : List aq} {g : FuncId} {caps : List j} {ds : List j} {r : j} (a1 : b5 C g ds r [])
  (U : aw (I l) f = .fn g caps) (dV : j.dr caps = true) (fR : views (I l) (fu (I l) args ++ caps) = some ds)
  (bN : r.res = true) (bS : j.cJ (fu (I l) args ++ caps) = [] ∨ r.c6 = true)
  (hv : bF C (fin (I l) dst r) os none K) : bF C (I l) (⟨dst, .call f args, none⟩ :: os) none K := by
 simp only [bF, jQ, lr]
 exact si ds r U dV fR a1 bN bS hv
theorem jb {a : List de} {f : aq} {args : List aq} {g : FuncId} {caps : List j} {ds : List j} {r : j} (a1 : b5 C g ds r [])
  (U : aw (I l) f = .fn g caps) (dV : j.dr caps = true) (fR : views (I l) (fu (I l) args ++ caps) = some ds)
  (bN : r.res = true) (bS : j.cJ (fu (I l) args ++ caps) = [] ∨ r.c6 = true)
  (hv : bF C (fin (I l) dst r) os (some (fC (I l) (use (I l) (.call f args)) dst [] r :: a)) K) : bF C (I l) (⟨dst, .call f args, none⟩ :: os) (some a) K := by
 simp only [bF, jQ, lr]
 exact si ds r U dV fR a1 bN bS hv
theorem sj {t : Nat} {b : Bool} {f : aq} {args : List aq} {g : FuncId} {caps : List j} {ds : List j} {r : j} (a1 : b5 C g ds r [])
  (U : aw (I l) f = .fn g caps) (dV : j.dr caps = true) (fR : views (I l) (fu (I l) args ++ caps) = some ds)
  (bN : r.res = true) (bS : j.cJ (fu (I l) args ++ caps) = [] ∨ r.c6 = true)
  (hv : bF C (fin (I l) dst r) os none K) : bw C l dst (.call f args) t b os none K (.bool b) := by
 simp only [bw, if_true]
 exact si ds r U dV fR a1 bN bS hv
theorem sk {a : List de} {t : Nat} {b : Bool} {f : aq} {args : List aq} {g : FuncId} {caps : List j} {ds : List j} {r : j} (a1 : b5 C g ds r [])
  (U : aw (I l) f = .fn g caps) (dV : j.dr caps = true) (fR : views (I l) (fu (I l) args ++ caps) = some ds)
  (bN : r.res = true) (bS : j.cJ (fu (I l) args ++ caps) = [] ∨ r.c6 = true)
  (hv : bF C (fin (I l) dst r) os (some (fC (I l) (t :: use (I l) (.call f args)) dst [] r :: a)) K) : bw C l dst (.call f args) t b os (some a) K (.bool b) := by
 simp only [bw, if_true]
 exact si ds r U dV fR a1 bN bS hv
theorem gV (s : ad) : views s [] = some [] ∧ (∀ d ds, views s (d :: ds) = (match view s d, views s ds with | some a, some b => some (a :: b) | _, _ => none)) ∧
  (∀ k n, view s (.int k n) = some (.int k n)) ∧ (∀ b, view s (.bool b) = some (.bool b)) ∧ (∀ x, view s (.str x) = some (.str x)) ∧ (∀ x, view s (.slice x) = some (.slice x)) ∧ (∀ x, view s (.ref x) = some (.ref x)) ∧
  view s .bu = some .bu ∧ view s .b_ = some .b_ ∧ (∀ af, view s (.agg af) = some (.agg af)) ∧ (∀ f cap, view s (.fn f cap) = (views s cap).map (.fn f)) := by
 refine ⟨rfl, fun d ds => ?_, fun _ _ => rfl, fun _ => rfl, fun _ => rfl, fun _ => rfl, fun _ => rfl, rfl, rfl, fun _ => rfl, fun _ _ => by simp only [view]⟩
 simp only [views]; rfl
theorem ik {α : Type} {u e : α → j} (h : ∀ x, (u x).share = e x) (xs : List α) : j.shares (xs.map u) = xs.map e := by
 rw [j.mQ]; simp [h]
def mn (s : ad) (H : List Nat) : List (Nat × j) → Prop
 | [] => True
 | p :: l => (p.2 = s p.1 ∨ ((s p.1).tree = true ∧ dh (s p.1) p.2 ∧ p.1 ∉ H)) ∧ mn s H l
theorem mo {cP : List (Nat × j)} (H : List Nat) (ja : j.cJ (cP.map (·.2)) = H) (h : mn s H cP) : qt s cP := by
 have key : ∀ (ev : List (Nat × j)), mn s H ev → ∀ p ∈ ev, p.2 = s p.1 ∨ ((s p.1).tree = true ∧ dh (s p.1) p.2 ∧ p.1 ∉ H) := by
  intro ev
  induction ev with
  | nil => intro _ p ak; cases ak
  | cons a ev ih =>
    intro h p ak
    rcases List.mem_cons.1 ak with rfl | ak
    ·exact h.1
    ·exact ih h.2 p ak
 have R : ∀ (ev : List (Nat × j)), ∀ bC ∈ ev, ∀ u ∈ bC.2.R, u ∈ j.cJ (ev.map (·.2)) := by
  intro ev
  induction ev with
  | nil => intro p ak; cases ak
  | cons a ev ih =>
    intro p ak u hu
    simp only [List.map_cons, j.cJ, List.mem_append]
    rcases List.mem_cons.1 ak with rfl | ak
    ·exact .inl hu
    ·exact .inr (ih p ak u hu)
 intro p ak
 rcases key _ h p ak with U | ⟨U, aa, au⟩
 ·exact .inl U
 ·refine .inr ⟨U, aa, fun bC cQ => .inl fun hm => au ?_⟩
  rw [← ja]; exact R cP bC cQ _ hm
theorem mq {H : List Nat} : mn s H [] := trivial
theorem lv {H : List Nat} {t : Nat} {d : j} {cP : List (Nat × j)} (h : d = s t) (hl : mn s H cP) : mn s H ((t, d) :: cP) := ⟨.inl h, hl⟩
theorem mr {H : List Nat} {t : Nat} {d aS : j} {cP : List (Nat × j)} (e : s t = d) (aG : d.tree = true) (ab : dh d aS) (ja : t ∉ H) (hl : mn s H cP) : mn s H ((t, aS) :: cP) := ⟨.inr ⟨by rw [e]; exact aG, by rw [e]; exact ab, ja⟩, hl⟩
end
theorem gu {C : bp} {A B : TypeId} {cF : IntKind} (fz : (C.T A).ok = true) (ej : (C.T B).k = .int cF) : ∀ s k n, dv C s A B (.int k n) = some (.int cF (cF.wrap n)) := fun s k n => FK C s A B k cF n fz ej
def zr : Option j → Option j
 | some (.aJ 1 xs) => (bytesOf xs).map .str
 | _ => none
theorem mu {C : bp} {A B e : TypeId} (fz : (C.T A).k = .slice e) (ej : (C.T B).k = .str) (he : (C.T e).k = .int .u8) :
  (∀ s xs, dv C s A B (.slice xs) = (bytesOf xs).map .str) ∧ (∀ s, dv C s A B .bu = some (.str [])) ∧ (∀ s x q, dv C s A B (.h x q) = zr (j.sub q (s x))) := by
 have p9 : (C.T A).ok = true := by simp [dT.ok, fz]
 refine ⟨fun s xs => ?_, fun s => ?_, fun s x q => ?_⟩
 ·simp only [dv, p9, fz, ej, he, if_true]
 ·simp only [dv, p9, fz, ej, he, if_true]
 ·simp only [dv, p9, fz, ej, he, if_true]
  rfl
theorem mv (xs : List j) : zr (some (.aJ 1 xs)) = (bytesOf xs).map .str := rfl
theorem zs (c : UInt8) (r : List j) : bytesOf (fy c :: r) = (bytesOf r).map (c :: ·) := by
 have := c.toNat_lt
 simp only [fy, bytesOf]
 rw [if_pos (by omega)]
 simp
theorem mw : bytesOf [] = some [] ∧ (∀ l : List UInt8, bytesOf (l.map fy) = some l) ∧ (∀ (c : UInt8) r, bytesOf (.int .u8 (c.toNat : Int) :: r) = (bytesOf r).map (c :: ·)) ∧
  (∀ m r, bytesOf (.int .u8 (IntKind.u8.wrap m) :: r) = (bytesOf r).map (c0 m :: ·)) :=
 ⟨rfl, CA, fun c r => zs c r, fun m r => by rw [← zg]; exact zs _ r⟩
theorem nA {k : IntKind} {b : Int} (h : b ≠ 0) : ∀ a, fb .quo k a k b = some (.int k (k.wrap (a.tdiv b))) := fun _ => FG h
theorem mx {k : IntKind} {b : Int} (h : b ≠ 0) : ∀ a, fb .rem k a k b = some (.int k (a.tmod b)) := fun _ => FH h
theorem sl {α : Type} {e : α → j} {n : Nat} (h : ∀ x, (e x).wd = n) : ∀ xs : List α, (∀ d ∈ xs.map e, d.wd = n) = True := FJ h
theorem all_cons {P : j → Prop} (d : j) (ds : List j) : (∀ x ∈ d :: ds, P x) = (P d ∧ ∀ x ∈ ds, P x) := by simp
theorem all_nil {P : j → Prop} : (∀ x ∈ ([] : List j), P x) = True := by simp
def zt (a b : List UInt8) : Option Unit → Option j
 | some _ => some (.str (a ++ b))
 | none => none
theorem jc (a b : List UInt8) : i6 .add a b = zt a b (eU (a.length + b.length)) := by
 simp only [i6, eU]; split <;> rfl
theorem jd (a b : List UInt8) (u : Unit) : zt a b (some u) = some (.str (a ++ b)) := rfl
theorem zu : (∀ l : List Nat, [] ++ l = l) ∧ (∀ a (l m : List Nat), (a :: l) ++ m = a :: (l ++ m)) := ⟨fun _ => rfl, fun _ _ _ => rfl⟩
def zv (C : bp) (e aU : TypeId) : Bool := (C.T e).ok && ((C.T e).zero.wd == (C.T e).sz) && (flat (C.T e).zero).isSome && rQ C e aU
def sm (C : bp) (e : TypeId) (xs : List j) : Option (List j × ad) → Option (j × ad)
 | some (bT, s2) => if (∀ d ∈ bT, d.wd = (C.T e).sz) ∧ (room (C.T e).bytes (xs.length + bT.length)).isSome = true then some (.aJ (C.T e).sz (xs ++ bT), s2) else none
 | none => none
def vk (C : bp) (e : TypeId) (y : j) (o : Option Nat) : Option (j × ad) → Option (j × ad)
 | some (.aJ sz xs, s1) => if sz = (C.T e).sz then sm C e xs (hs s1 (gN o y)) else none
 | _ => none
theorem FQ (b n : Nat) : (room b n).isSome = true ↔ n * b ≤ 140737488355328 ∧ n ≤ 9223372036854775807 := by unfold room; split <;> simp_all
theorem sn {C : bp} {T aU e : TypeId} (kA : (C.T T).k = .slice e) (d_ : zv C e aU = true) : ∀ s x y, h9 C s T aU x y = vk C e y x.owner (kN C e s x) := by
 intro s x y
 simp only [zv, Bool.and_eq_true, beq_iff_eq] at d_
 rw [uw, kA]
 simp only
 rw [if_pos ⟨d_.1.1.1, d_.1.1.2, d_.1.2, d_.2⟩]
 generalize x.owner = o
 cases kN C e s x with
 | none => rfl
 | some p =>
   obtain ⟨d, s1⟩ := p
   cases d <;> first
    | rfl
    | (simp only [vk]
       split
       ·rename_i h; subst h
        generalize hs s1 (gN o y) = z
        cases z with
        | none => rfl
        | some p => simp only [sm, FQ]
       ·rfl)
def zw : Option (j × ad) → Option (List j × ad)
 | some (.aJ _ bT, s2) => some (bT, s2)
 | _ => none
theorem so (s : ad) : hs s .bu = some ([], s) ∧ (∀ bT, hs s (.slice bT) = some (bT, s)) ∧ (∀ l, hs s (.str l) = some (l.map fy, s)) ∧
  (∀ a q, hs s (.h a q) = zw (bM s (.h a q))) ∧ (∀ n bT, zw (some (.aJ n bT, s)) = some (bT, s)) :=
 ⟨rfl, fun _ => rfl, fun _ => rfl, fun _ _ => by simp only [hs]; rfl, fun _ _ => rfl⟩
theorem sq (C : bp) (e : TypeId) : (∀ s, kN C e s .bu = some (.aJ (C.T e).sz [], s)) ∧ (∀ s a q, kN C e s (.h a q) = bM s (.h a q)) ∧
  (∀ y o sz xs s1, vk C e y o (some (.aJ sz xs, s1)) = if sz = (C.T e).sz then sm C e xs (hs s1 (gN o y)) else none) ∧
  (∀ xs bT s2, sm C e xs (some (bT, s2)) = if (∀ d ∈ bT, d.wd = (C.T e).sz) ∧ (room (C.T e).bytes (xs.length + bT.length)).isSome = true then some (.aJ (C.T e).sz (xs ++ bT), s2) else none) :=
 ⟨fun _ => rfl, fun _ _ _ => rfl, fun _ _ _ _ _ => rfl, fun _ _ _ => rfl⟩
theorem sr : (∀ d, gN none d = d) ∧ (∀ x d, gN (some x) d = bk x d) ∧ (∀ x q, j.owner (.h x q) = some x) ∧ j.owner .bu = none :=
 ⟨fun _ => rfl, fun _ _ => rfl, fun _ _ => rfl, rfl⟩
def zx (s : ad) (x : Nat) (q : List Nat) : Option j → Option (j × ad)
 | some d => if d.plain = true then none else some (d, ca (fw x s) x (j.put q d.bV (s x)))
 | none => none
theorem zy (s : ad) (x : Nat) (q : List Nat) : bM s (.h x q) = zx s x q (j.sub q (s x)) := by
 simp only [bM]; cases j.sub q (s x) <;> rfl
theorem zz (s : ad) : (∀ x q d, zx s x q (some d) = if d.plain = true then none else some (d, ca (fw x s) x (j.put q d.bV (s x)))) ∧ (∀ k n, bM s (.int k n) = some (.int k n, s)) ∧ (∀ b, bM s (.bool b) = some (.bool b, s)) ∧ (∀ x, bM s (.str x) = some (.str x, s)) ∧
  (∀ x, bM s (.slice x) = some (.slice x, s)) ∧ (∀ x, bM s (.ref x) = some (.ref x, s)) ∧ (∀ x, bM s (.agg x) = some (.agg x, s)) ∧ bM s .bu = some (.bu, s) ∧ bM s .b_ = some (.b_, s) :=
 ⟨fun _ _ _ => rfl, fun _ _ => rfl, fun _ => rfl, fun _ => rfl, fun _ => rfl, fun _ => rfl, fun _ => rfl, rfl, rfl⟩
theorem zA (l : List (Nat × j)) (t : Nat) (d : j) : ca (I l) t d = I ((t, d) :: l) := gU l t d
theorem zB : (∀ n x, j.bV (.aJ n x) = .hole) ∧ (∀ x, j.bV (.bb x) = .hole) ∧ (∀ af, j.bV (.agg af) = .agg (j.hf af)) ∧ (∀ af, j.bV (.tuple af) = .tuple (j.hf af)) ∧ j.hf [] = [] ∧ (∀ d ds, j.hf (d :: ds) = d.bV :: j.hf ds) ∧
  (∀ k n, j.bV (.int k n) = .int k n) ∧ (∀ b, j.bV (.bool b) = .bool b) ∧ (∀ x, j.bV (.str x) = .str x) ∧ (∀ x, j.bV (.slice x) = .slice x) ∧ (∀ x, j.bV (.ref x) = .ref x) ∧ j.bV .bu = .bu ∧ j.bV .b_ = .b_ ∧ j.bV .hole = .hole := by
 simp [j.bV, j.hf]
def nB : Option j → Option j
 | some d => (match d with | .tuple _ => none | .ch _ => none | d => if d.plain = true then none else some d.share)
 | none => none
def nC : Option j → Option j
 | some d => (match d with | .tuple _ => none | d => some (.ref d.share))
 | none => none
theorem gW (s : ad) (x : Nat) (q : List Nat) : view s (.h x q) = nB (j.sub q (s x)) ∧ view s (.ak x q) = (if j.db q (s x) = true then nC (j.sub q (s x)) else none) := by
 constructor
 ·simp only [view]; rfl
 ·simp only [view]; rfl
theorem gX : (∀ n xs, nB (some (.aJ n xs)) = some (.slice (j.shares xs))) ∧ (∀ d, nB (some (.bb d)) = some (.ref d.share)) ∧ (∀ af, nB (some (.agg af)) = if j.dr af = true then none else some (.agg (j.shares af))) ∧
  (∀ af, nC (some (.agg af)) = some (.ref (.agg (j.shares af)))) ∧ (∀ k n, nC (some (.int k n)) = some (.ref (.int k n))) ∧ (∀ x, nC (some (.str x)) = some (.ref (.str x))) :=
 ⟨fun _ _ => by simp [nB, j.plain, j.share], fun _ => by simp [nB, j.plain, j.share], fun af => by cases h : j.dr af <;> simp [nB, j.plain, j.share, h], fun _ => by simp [nC, j.share], fun _ _ => by simp [nC, j.share], fun _ => by simp [nC, j.share]⟩
theorem gB : (∀ n xs, j.share (.aJ n xs) = .slice (j.shares xs)) ∧ (∀ d, j.share (.bb d) = .ref d.share) ∧ (∀ xs, j.share (.slice xs) = .slice (j.shares xs)) ∧ (∀ d, j.share (.ref d) = .ref d.share) ∧ (∀ af, j.share (.agg af) = .agg (j.shares af)) ∧ (∀ af, j.share (.tuple af) = .tuple (j.shares af)) ∧
  (∀ k n, j.share (.int k n) = .int k n) ∧ (∀ b, j.share (.bool b) = .bool b) ∧ (∀ x, j.share (.str x) = .str x) ∧ j.share .bu = .bu ∧ j.share .b_ = .b_ ∧ j.shares [] = [] ∧ (∀ d ds, j.shares (d :: ds) = d.share :: j.shares ds) := by
 simp [j.share, j.shares]
theorem o8 : (∀ k n, j.owner (.int k n) = none) ∧ (∀ b, j.owner (.bool b) = none) ∧ (∀ x, j.owner (.str x) = none) ∧ (∀ x, j.owner (.slice x) = none) ∧ (∀ x, j.owner (.ref x) = none) ∧ (∀ x, j.owner (.agg x) = none) ∧ j.owner .b_ = none ∧ j.owner .bu = none ∧ (∀ x q, j.owner (.h x q) = some x) :=
 ⟨fun _ _ => rfl, fun _ => rfl, fun _ => rfl, fun _ => rfl, fun _ => rfl, fun _ => rfl, rfl, rfl, fun _ _ => rfl⟩
end Go.b7
