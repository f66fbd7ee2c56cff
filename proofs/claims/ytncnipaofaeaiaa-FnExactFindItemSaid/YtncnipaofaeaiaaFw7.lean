/- Part of a proof that a law returns true for every input. No condition. -/
import Derived.Test.YtncnipaofaeaiaaFw6
namespace Go.Fw

section
variable {C : Cx} {w0 w : World} {F0 X F : Nat → Prop} {S : Nat → Nat → Prop} {s s1 : St} {tm : Nat → Value} {av : AV}

theorem isAgg_struct (hC : C.Ok) {T : TypeId} {fs : List (TypeId × Nat)} (hk : (C.T T).k = .struct fs) (w : World) : (isAgg T).run C.P w = .ok true w := by
  obtain ⟨i, d, z, e1, e2, e3, e4, e5, e6, e7⟩ := hC.info (ok_of_k hk (by simp))
  rw [hk] at e7
  obtain ⟨gs, rfl, _⟩ := desc_struct e7
  simp [isAgg, run_underlying e6]

def TI.flat (x : TI) : Bool := match x.k with
  | .other => false
  | .struct _ => false
  | _ => true

theorem ok_of_flat {x : TI} (h : x.flat = true) : x.ok = true := by
  unfold TI.flat at h; unfold TI.ok; revert h; cases x.k <;> simp

theorem isAgg_flat (hC : C.Ok) {T : TypeId} (hk : (C.T T).flat = true) (w : World) : (isAgg T).run C.P w = .ok false w := by
  obtain ⟨i, d, z, e1, e2, e3, e4, e5, e6, e7⟩ := hC.info (ok_of_flat hk)
  have hne : (∀ fs, d ≠ .struct fs) ∧ (∀ n e, d ≠ .array n e) := by
    clear e6
    unfold TI.flat at hk
    generalize (C.T T).k = kk at *
    cases kk <;> cases d <;> simp [okDesc] at e7 hk ⊢
  cases d <;> first | exact (hne.1 _ rfl).elim | exact (hne.2 _ _ rfl).elim | simp [isAgg, run_underlying e6]

theorem Rd.one {w : World} {b o : Nat} {v : Value} (h : Rd w b o [v]) : w.cell? ⟨b, o, none⟩ = some v := by simpa using h 0 v rfl

theorem run_loadCellsFrom' {P : Program} {b o : Nat} : ∀ (cs : List Value) (i : Nat) (acc : Array Value), Rd w b (o + i) cs → (loadCellsFrom ⟨b, o, none⟩ i cs.length acc).run P w = .ok (acc ++ cs.toArray) w
  | [], i, acc, _ => by simp [loadCellsFrom]
  | c :: cs, i, acc, h => by
    have h0 : w.cell? ⟨b, o + i, none⟩ = some c := by simpa using h 0 c rfl
    have h1 : Rd w b (o + (i + 1)) cs := by
      intro j x hj
      have := h (j + 1) x (by simpa using hj)
      rw [← this]; congr 2; omega
    have ih := run_loadCellsFrom' (P := P) cs (i + 1) (acc.push c) h1
    simp only [List.length_cons, loadCellsFrom, Sem.run_bind, Go.load, Sem.run, Addr.add_lit, h0, Result.andThen]
    rw [ih]; simp

theorem run_loadVar_struct (hC : C.Ok) {T : TypeId} {fs : List (TypeId × Nat)} (hk : (C.T T).k = .struct fs) {b o : Nat} {cs : List Value} (h : Rd w b o cs) (hl : cs.length = (C.T T).sz) :
    (loadVar T ⟨b, o, none⟩).run C.P w = .ok (.agg cs.toArray) w := by
  obtain ⟨i, d, z, e1, e2, e3, e4, e5, e6, e7⟩ := hC.info (ok_of_k hk (by simp))
  have := run_loadCellsFrom' (P := C.P) (b := b) (o := o) cs 0 #[] (by simpa using h)
  simp only [loadVar, Sem.run_bind, isAgg_struct hC hk, Result.andThen, if_true, run_sizeOf' e1, e2, ← hl, loadCells, this]
  simp

theorem run_loadVar_flat (hC : C.Ok) {T : TypeId} (hk : (C.T T).flat = true) {b o : Nat} {v : Value} (h : Rd w b o [v]) :
    (loadVar T ⟨b, o, none⟩).run C.P w = .ok v w := by
  simp [loadVar, isAgg_flat hC hk, Go.load, Sem.run, h.one]

/-- A tree of a type's shape. -/
def fits (C : Cx) (T : TypeId) (d : AV) : Bool := match (C.T T).k, d with
    | .struct _, .agg ds => AV.wds ds == (C.T T).sz
    | .struct _, _ => false
    | _, .agg _ => false
    | _, .tuple _ => false
    | _, _ => (C.T T).flat
/-- Reading a place. -/
def ld (C : Cx) (s : St) (T : TypeId) (x : AV) : Option AV :=
  match x with
  | .ref d => if fits C T d = true then some d else none
  | x => match loc s x with
    | some (y, q) => match AV.sub q (s y) with
      | some d => if fits C T d = true then some (if d.plain then d else .h y q) else none
      | none => none
    | none => none

theorem RV.one {F : Nat → Prop} {d : AV} {cs : List Value} {S : Nat → Prop} (h : RV w F d cs S) (h1 : ∀ fs, d ≠ .agg fs) (h2 : ∀ fs, d ≠ .tuple fs) : ∃ v, cs = [v] ∧ Value.isOne v = true := by
  cases d with
  | hole => rw [RV] at h; obtain ⟨v, h, rfl⟩ := h; exact ⟨v, rfl, h⟩
  | anyb => rw [RV] at h; obtain ⟨v, rfl⟩ := h; exact ⟨_, rfl, rfl⟩
  | slice xs => rw [RV] at h; rcases h with ⟨_, a, c, rfl, _⟩ | ⟨b, o, cap, ecs, sz, rfl, _⟩ <;> exact ⟨_, rfl, rfl⟩
  | uslice sz xs => rw [RV] at h; rcases h with ⟨_, rfl⟩ | ⟨b, cap, cur, e, fr, S0, rfl, _⟩ <;> exact ⟨_, rfl, rfl⟩
  | ref d => rw [RV] at h; obtain ⟨b, o, ecs, rfl, _⟩ := h; exact ⟨_, rfl, rfl⟩
  | ubox d => rw [RV] at h; obtain ⟨b, cur, e, fr, S0, rfl, _⟩ := h; exact ⟨_, rfl, rfl⟩
  | agg fs => exact (h1 _ rfl).elim
  | tuple fs => exact (h2 _ rfl).elim
  | fn _ _ => rw [RV] at h; exact h.elim
  | h _ _ => rw [RV] at h; exact h.elim
  | hp _ _ => rw [RV] at h; exact h.elim
  | _ => rw [RV] at h; subst h; exact ⟨_, rfl, rfl⟩

theorem run_load_any (hC : C.Ok) {T : TypeId} {d : AV} {b o : Nat} {cs : List Value} {S : Nat → Prop} (h : Rd w b o cs) (hd : RV w F d cs S)
    (hfit : fits C T d = true) :
    ∃ v, (loadVar T ⟨b, o, none⟩).run C.P w = .ok v w ∧ vc v = cs ∧ shp d v := by
  unfold fits at hfit
  by_cases hs : ∃ fs, (C.T T).k = .struct fs
  · obtain ⟨fs, hk⟩ := hs
    rw [hk] at hfit
    cases d with
    | agg ds =>
      simp only [beq_iff_eq] at hfit
      refine ⟨_, run_loadVar_struct hC hk h ((RV.length _ _ _ hd).trans hfit), rfl, ⟨_, rfl⟩⟩
    | _ => simp at hfit
  · have hfl : (C.T T).flat = true ∧ (∀ fs, d ≠ .agg fs) ∧ (∀ fs, d ≠ .tuple fs) := by
      revert hfit hs
      cases hk : (C.T T).k <;> cases d <;> simp
    obtain ⟨v, rfl, h1⟩ := RV.one hd hfl.2.1 hfl.2.2
    refine ⟨v, run_loadVar_flat hC hfl.1 h, vc_one h1, ?_⟩
    cases d <;> first | exact h1 | exact (hfl.2.1 _ rfl).elim | exact (hfl.2.2 _ rfl).elim

theorem ld_good (hC : C.Ok) (h : RelX w0 F0 X F S s tm w) {T : TypeId} {x : AV} {v : Value} (hv : SV w F s tm x v (fun _ => False)) (he : ld C s T x = some av) :
    Good C w0 F0 X tm w (Instr.loadAt T v) av s := by
  unfold ld at he
  split at he
  · rename_i d
    split at he
    · rename_i hfit
      simp only [Option.some.injEq] at he; subst he
      have hv' := (SV.of_tree rfl).1 hv
      rw [RV, vc_one hv'.1] at hv'
      obtain ⟨hs, b, o, ecs, h1, h2, h3, h4⟩ := hv'
      simp only [List.cons.injEq, and_true] at h1; subst h1
      obtain ⟨v', hr, hc, hsh⟩ := run_load_any hC h3 h4 hfit
      have hr' : (Instr.loadAt T (.pointer (some ⟨b, o, none⟩))).run C.P w = .ok v' w := by simp [Instr.loadAt, Instr.sureAddr, hr]
      refine ⟨v', w, F, S, hr', h, ?_⟩
      by_cases ht : d.tree = true
      · exact .inr ⟨ht, hsh, fun _ => False, by rw [hc]; exact h4, fun _ h => h.elim, fun _ h => h.elim, fun _ _ h => h.elim, fun _ h => h.elim⟩
      · cases d <;> first | exact (ht rfl).elim | (rw [RV] at h4; exact h4.elim) | exact .inl ⟨rfl, by rw [SV]; trivial⟩
    · cases he
  · rename_i x _
    split at he
    · rename_i y q hl
      split at he
      · rename_i d hd
        split at he
        · rename_i hfit
          simp only [Option.some.injEq] at he
          obtain ⟨hcr, dcs, b, o, rfl, hfol⟩ := loc_sv h hv hl hd
          have hy := h.sv y
          rw [SV.of_tree (tree_of_sub hd (.inr hcr))] at hy
          obtain ⟨dcs', a', Sc, Sd, k0, k1, k2, k3, k4, k5⟩ := ctx q (s y) (vc (tm y)) (S y) none _ hy.2 hd
          rw [k0] at hfol
          simp only [Option.some.injEq, Prod.mk.injEq, true_and] at hfol
          obtain ⟨rfl, rfl⟩ := hfol
          have hrd : Rd w b o dcs' := by
            rcases k5 with ⟨l, r, e1, e2, _⟩ | ⟨b', cur, e, fr, l, r, e1, e2, e3, e4, e5, _⟩
            · simp at e2
            · simp only [Option.some.injEq, Prod.mk.injEq] at e1
              obtain ⟨rfl, rfl⟩ := e1
              intro j c hj
              have hlt : j < dcs'.length := (List.getElem?_eq_some_iff.1 hj).1
              have : cur.toList[l.length + j]? = some c := by
                rw [e5, List.getElem?_append_right (by omega), List.getElem?_append_left (by omega), ← hj]; congr 1; omega
              simp [World.cell?, e3]
              simpa using this
          obtain ⟨v', hr, hc, hsh⟩ := run_load_any hC hrd k4 hfit
          have hr' : (Instr.loadAt T (.pointer (some ⟨b, o, none⟩))).run C.P w = .ok v' w := by simp [Instr.loadAt, Instr.sureAddr, hr]
          refine ⟨v', w, F, S, hr', h, ?_⟩
          split at he
          · rename_i hp
            subst he
            by_cases ht : d.tree = true
            · exact .inl ⟨hp, (SV.of_tree ht).2 ⟨hsh, by rw [hc]; exact RV.plain _ _ _ _ hp k4⟩⟩
            · cases d <;> first | exact (ht rfl).elim | (rw [RV] at k4; exact k4.elim) | exact .inl ⟨rfl, by rw [SV]; trivial⟩
          · subst he
            refine .inl ⟨rfl, ?_⟩
            rw [SV]
            intro d2 hd2 _
            rw [hd] at hd2
            simp only [Option.some.injEq] at hd2
            subst hd2
            exact ⟨_, _, k0, hc, hsh⟩
        · cases he
      · cases he
    · cases he

mutual
theorem RV.ones {F : Nat → Prop} : ∀ (d : AV) (cs : List Value) (S : Nat → Prop), RV w F d cs S → ∀ c ∈ cs, Value.isOne c = true
  | .hole, cs, S, h => by rw [RV] at h; obtain ⟨v, h, rfl⟩ := h; simpa using h
  | .bool _, cs, S, h => by rw [RV] at h; subst h; simp [Value.isOne]
  | .anyb, cs, S, h => by rw [RV] at h; obtain ⟨b, rfl⟩ := h; simp [Value.isOne]
  | .int _ _, cs, S, h => by rw [RV] at h; subst h; simp [Value.isOne]
  | .str _, cs, S, h => by rw [RV] at h; subst h; simp [Value.isOne]
  | .nilp, cs, S, h => by rw [RV] at h; subst h; simp [Value.isOne]
  | .nils, cs, S, h => by rw [RV] at h; subst h; simp [Value.isOne]
  | .slice xs, cs, S, h => by
    rw [RV] at h
    rcases h with ⟨_, a, c, rfl, _⟩ | ⟨b, o, cap, ecs, sz, rfl, _⟩ <;> simp [Value.isOne]
  | .uslice sz xs, cs, S, h => by
    rw [RV] at h
    rcases h with ⟨_, rfl⟩ | ⟨b, cap, cur, e, fr, S', rfl, _⟩ <;> simp [Value.isOne]
  | .ref d, cs, S, h => by rw [RV] at h; obtain ⟨b, o, ecs, rfl, _⟩ := h; simp [Value.isOne]
  | .ubox d, cs, S, h => by rw [RV] at h; obtain ⟨b, o, ecs, _, _, rfl, _⟩ := h; simp [Value.isOne]
  | .agg fs, cs, S, h => by rw [RV] at h; exact RVs.ones fs _ _ h
  | .tuple fs, cs, S, h => by rw [RV] at h; exact RVs.ones fs _ _ h
  | .fn _ _, cs, S, h => by rw [RV] at h; exact h.elim
  | .h _ _, cs, S, h => by rw [RV] at h; exact h.elim
  | .hp _ _, cs, S, h => by rw [RV] at h; exact h.elim
theorem RVs.ones {F : Nat → Prop} : ∀ (ds : List AV) (cs : List Value) (S : Nat → Prop), RVs w F ds cs S → ∀ c ∈ cs, Value.isOne c = true
  | [], cs, S, h => by rw [RVs] at h; subst h; simp
  | d :: ds, cs, S, h => by
    rw [RVs] at h
    obtain ⟨c1, c2, S1, S2, rfl, h2, h3, _⟩ := h
    intro c hc
    rcases List.mem_append.1 hc with hc | hc
    · exact RV.ones d _ _ h2 c hc
    · exact RVs.ones ds _ _ h3 c hc
end

theorem run_storeCells' {P : Program} {b o : Nat} {e : TypeId} {fr : Nat × Nat} : ∀ (vs : List Value) (i : Nat) (cur : Array Value) (w : World) (l m r : List Value), w.heap[b]? = some (.cells cur e fr) → nofrz fr cur.size →
    cur.toList = l ++ (m ++ r) → l.length = o + i → m.length = vs.length → (∀ v ∈ vs, Value.isOne v = true) →
    ∃ w', (storeCells ⟨b, o, none⟩ vs i).run P w = .ok () w' ∧ w'.heap[b]? = some (.cells (l ++ (vs ++ r)).toArray e fr) ∧ (∀ c, c ≠ b → w'.heap[c]? = w.heap[c]?) ∧ w'.heap.size = w.heap.size ∧ w'.os = w.os ∧ w'.tape = w.tape ∧ w'.output = w.output
  | [], i, cur, w, l, m, r, hb, hf, hc, hl, hm, _ => by
    refine ⟨w, rfl, ?_, fun _ _ => rfl, rfl, rfl, rfl, rfl⟩
    have : m = [] := by simpa using hm
    subst this
    rw [hb]
    have : cur = (l ++ ([] ++ r)).toArray := by rw [← hc]
    rw [← this]
  | v :: vs, i, cur, w, l, m, r, hb, hf, hc, hl, hm, hone => by
    obtain ⟨x, m, rfl⟩ : ∃ x m', m = x :: m' := by cases m with
      | nil => simp at hm
      | cons x m => exact ⟨x, m, rfl⟩
    have hlen : cur.size = (l ++ (x :: m ++ r)).length := by rw [← hc]; simp
    have hlt : o + i < cur.size := by rw [hlen]; simp; omega
    have hcell : w.cell? ⟨b, o + i, none⟩ = some cur[o + i] := by simp [World.cell?, hb, hlt]
    have hfro : w.frozen? ⟨b, o + i, none⟩ = false := by
      have := hf (o + i) hlt
      simp only [World.frozen?, hb]
      simp only [Bool.and_eq_false_iff, decide_eq_false_iff_not]
      by_cases h1 : fr.1 ≤ o + i
      · right; exact fun h2 => this ⟨h1, h2⟩
      · left; exact h1
    have hset : (w.setCell ⟨b, o + i, none⟩ v).heap[b]? = some (.cells ((l ++ [v]) ++ (m ++ r)).toArray e fr) := by
      simp only [World.setCell, Array.getElem?_modify, if_true, hb, Option.map_some, Option.isSome_none, Bool.false_eq_true, if_false]
      congr 2
      apply Array.ext'
      rw [Array.toList_setIfInBounds, hc, ← hl, List.set_append_right _ _ (Nat.le_refl _)]
      simp
    have hrun : (store ((⟨b, o, none⟩ : Addr).add i) v).run P w = .ok () (w.setCell ⟨b, o + i, none⟩ v) := by
      have h1 := hone v (by simp)
      rw [Addr.add_lit]
      cases v <;> first | (simp [Value.isOne] at h1; done) | simp [Go.store, Sem.run, hcell, hfro]
    obtain ⟨w', g1, g2, g3, g4, g5, g6, g7⟩ := run_storeCells' (P := P) (b := b) (o := o) vs (i + 1) _ (w.setCell ⟨b, o + i, none⟩ v) (l ++ [v]) m r hset (by
      have : (l ++ [v] ++ (m ++ r)).toArray.size = cur.size := by rw [hlen]; simp
      rw [this]; exact hf) (by simp) (by simp; omega) (by simpa using hm) (fun u hu => hone u (by simp [hu]))
    refine ⟨w', ?_, by simpa using g2, fun c hc => ?_, ?_, g5, g6, g7⟩
    · simp only [storeCells, Sem.run_bind, hrun, Result.andThen]; exact g1
    · rw [g3 c hc]
      simp only [World.setCell, Array.getElem?_modify]
      rw [if_neg (fun e => hc e.symm)]
    · rw [g4]; simp [World.setCell]

theorem cells_vc {d : AV} {v : Value} (h : shp d v) (hd : ∀ fs, d ≠ .tuple fs) : v.cells = (vc v).toArray := by
  cases d with
  | tuple fs => exact (hd _ rfl).elim
  | agg fs => obtain ⟨arr, rfl⟩ := h; simp [Value.cells, vc, vc1]
  | _ =>
    have h1 : Value.isOne v = true := h
    rw [vc_one h1]
    cases v <;> first | rfl | (simp [Value.isOne] at h1)

/-- Writing a place. -/
def sto (C : Cx) (s : St) (T : TypeId) (x y : AV) : Option St :=
  match tk s y, loc s x with
  | some (d, s1), some (z, q) => match d with
    | .tuple _ => none
    | d => match AV.sub q (s z) with
      | some d0 => if d.wd = d0.wd ∧ d.wd = (C.T T).sz ∧ (C.T T).ok = true ∧ y.owner ≠ some z then some (upd (pkS z s1) z (AV.put q d (s z))) else none
      | none => none
  | _, _ => none

theorem tk_other {s s1 : St} {y d : AV} {z : Nat} (h : tk s y = some (d, s1)) (hz : (s z).tree = true) (hy : y.owner ≠ some z) : s1 z = s z := by
  cases y with
  | h x q =>
    simp only [tk] at h
    split at h
    · split at h
      · cases h
      · simp only [Option.some.injEq, Prod.mk.injEq] at h
        obtain ⟨_, rfl⟩ := h
        rw [upd_ne _ _ (fun e => hy (by rw [AV.owner, e]))]
        exact pk_tree hz
    · cases h
  | hp x q => simp [tk] at h
  | fn f c => simp [tk] at h
  | hole => simp [tk] at h
  | _ => simp only [tk, Option.some.injEq, Prod.mk.injEq] at h; rw [h.2]

theorem sto_good (hC : C.Ok) (h : RelX w0 F0 X F S s tm w) {T : TypeId} {x y : AV} {vx vy : Value} (hvx : SV w F s tm x vx (fun _ => False)) (hy : y.plain = true) (hvy : SV w F s tm y vy (fun _ => False))
    {s2 : St} (he : sto C s T x y = some s2) :
    ∃ w' S', (Instr.storeAt T vx vy).run C.P w = .ok () w' ∧ RelX w0 F0 X F S' s2 tm w' := by
  unfold sto at he
  split at he
  · rename_i d s1 z q ht hl
    have key : ∀ d : AV, (∀ fs, d ≠ .tuple fs) → tk s y = some (d, s1) → (match AV.sub q (s z) with
      | some d0 => if d.wd = d0.wd ∧ d.wd = (C.T T).sz ∧ (C.T T).ok = true ∧ y.owner ≠ some z then some (upd (pkS z s1) z (AV.put q d (s z))) else none
      | none => none) = some s2 → ∃ w' S', (Instr.storeAt T vx vy).run C.P w = .ok () w' ∧ RelX w0 F0 X F S' s2 tm w' := by
      intro d htup ht he
      split at he
      · rename_i d0 hd0
        split at he
        · rename_i hcond
          obtain ⟨h1, h2, h3, h4⟩ := hcond
          simp only [Option.some.injEq] at he; subst he
          obtain ⟨hcr, dcs, b, o, rfl, hfol⟩ := loc_sv h hvx hl hd0
          obtain ⟨S1, g0, g1, g2, Sn, g3, g4, g5, g6, g7, g8⟩ := tk_sv h hy hvy ht
          have hsz : s1 z = s z := tk_other ht (tree_of_sub hd0 (.inr hcr)) h4
          rw [← hsz] at hd0 hcr hfol ⊢
          obtain ⟨dcs', b', l, r, cur, e, fr, k0, k1, k2, k3, k4⟩ := g0.store hd0 hcr g3 h1 g4 g5 g6 g7
          rw [hfol] at k0
          simp only [Option.some.injEq, Prod.mk.injEq, true_and] at k0
          obtain ⟨rfl, rfl, rfl⟩ := k0
          obtain ⟨i, d, z', e1, e2, e3, e4, e5, e6, e7⟩ := hC.info h3
          have hlen := RV.length _ _ _ g3
          have hm : dcs.length = (vc vy).length := by
            have hz0 := g0.sv z
            rw [SV.of_tree (tree_of_sub hd0 (.inr hcr))] at hz0
            obtain ⟨_, _, _, _, c0, _, _, _, c4, _⟩ := ctx q (s1 z) (vc (tm z)) (S1 z) none _ hz0.2 hd0
            rw [hfol] at c0
            simp only [Option.some.injEq, Prod.mk.injEq, true_and] at c0
            rw [c0.1, RV.length _ _ _ c4, hlen, h1]
          obtain ⟨w', m1, m2, m3, m4, m5, m6, m7⟩ := run_storeCells' (P := C.P) (b := b) (o := l.length) (e := e) (fr := fr) (vc vy) 0 cur w l dcs r k1 k3 k2 rfl hm (RV.ones _ _ _ g3)
          obtain ⟨S', k5⟩ := k4 w' m2 m3 m4 m5 m6 m7
          refine ⟨w', S', ?_, k5⟩
          have hcells := cells_vc g2 htup
          simp [Instr.storeAt, Instr.sureAddr, storeVar, run_sizeOf' e1, e2, hcells, hlen, h2, m1]
        · cases he
      · cases he
    split at he
    · cases he
    · rename_i htup
      exact key _ (fun fs e => htup fs e) ht he
  · cases he

/-- A new block of one's own. -/
theorem RelX.alloc (h : RelX w0 F0 X F S s tm w) {d : AV} {cs : List Value} {Sn : Nat → Prop} (e : TypeId) (hv : RV w F d cs Sn)
    (hlt : ∀ b, Sn b → b < w.heap.size) (hF : ∀ b, Sn b → ¬ F b) (hS : ∀ u b, Sn b → ¬ S u b) (h0 : ∀ b, Sn b → X b ∨ w0.heap.size ≤ b) :
    RelX w0 F0 X F S s tm (w.alloc (.cells cs.toArray e)) ∧
      Val w0 X F S s tm (w.alloc (.cells cs.toArray e)) (.ubox d) (.pointer (some ⟨w.heap.size, 0, none⟩)) := by
  have hold : ∀ b, b < w.heap.size → (w.alloc (.cells cs.toArray e)).heap[b]? = w.heap[b]? := by
    intro b hb
    show (w.heap.push _)[b]? = _
    rw [Array.getElem?_push, if_neg (by omega)]
  refine ⟨h.grow hold (by simp) rfl rfl rfl, .inr ⟨rfl, rfl, fun b => b = w.heap.size ∨ Sn b, ?_, ?_, ?_, ?_, ?_⟩⟩
  · rw [RV]
    refine ⟨w.heap.size, cs.toArray, e, (0, 0), Sn, rfl, .inl rfl, ?_, ?_, ?_, fun c hc => .inr hc, fun hc => Nat.lt_irrefl _ (hlt _ hc)⟩
    · show (w.heap.push _)[_]? = _
      simp
    · intro o _ ⟨_, h2⟩; exact absurd h2 (Nat.not_lt_zero _)
    · exact RV.frame (fun b hb => hold b (h.Flt b hb)) _ _ _ (fun b hb => hold b (hlt b hb)) hv
  · rintro b (rfl | hb)
    · simp
    · have := hlt b hb; simp; omega
  · rintro b (rfl | hb) hF'
    · exact Nat.lt_irrefl _ (h.Flt _ hF')
    · exact hF b hb hF'
  · rintro u b (rfl | hb) hu
    · exact Nat.lt_irrefl _ (h.Slt _ _ hu)
    · exact hS u b hb hu
  · rintro b (rfl | hb)
    · exact .inr h.size
    · exact h0 b hb

/-- A new variable at its zero. -/
def alc (C : Cx) (T : TypeId) : Option AV := if (C.T T).ok = true then (match flat (C.T T).zero with | some _ => some (.ubox (C.T T).zero) | none => none) else none

theorem alc_good (hC : C.Ok) (h : RelX w0 F0 X F S s tm w) {T : TypeId} (he : alc C T = some av) : Good C w0 F0 X tm w (Instr.alloc T true (.tuple #[])) av s := by
  unfold alc at he
  split at he
  · rename_i hk
    split at he
    · rename_i cs hcs
      simp only [Option.some.injEq] at he; subst he
      obtain ⟨i, d, z, e1, e2, e3, e4, e5, e6, e7⟩ := hC.info hk
      have hz := e5 cs hcs
      obtain ⟨r1, r2⟩ := h.alloc (d := (C.T T).zero) T ((RV.flat _).1 _ cs (fun _ => False) (Nat.le_refl _) hcs) (fun _ h => h.elim) (fun _ h => h.elim) (fun _ _ h => h.elim) (fun _ h => h.elim)
      refine ⟨_, _, F, S, ?_, r1, r2⟩
      simp [Instr.alloc, run_zeroValue' e1 e4, newVar, newRow, newObj, Sem.run, hz]
    · cases he
  · cases he

/-- A new variable with a value. -/
def bx (s : St) (x : AV) : Option (AV × St) := match tk s x with
  | some (.tuple _, _) => none
  | some (d, s1) => some (.ubox d, s1)
  | none => none

theorem bx_good (h : RelX w0 F0 X F S s tm w) {T : TypeId} {x : AV} {v : Value} (hx : x.plain = true) (hv : SV w F s tm x v (fun _ => False)) (he : bx s x = some (av, s1)) :
    Good C w0 F0 X tm w (Instr.box T v) av s1 := by
  unfold bx at he
  split at he
  · cases he
  · rename_i d s2 htup ht
    simp only [Option.some.injEq, Prod.mk.injEq] at he
    obtain ⟨rfl, rfl⟩ := he
    obtain ⟨S1, g0, g1, g2, Sn, g3, g4, g5, g6, g7, g8⟩ := tk_sv h hx hv ht
    obtain ⟨r1, r2⟩ := g0.alloc T g3 g4 g5 g6 g7
    refine ⟨_, _, F, S1, ?_, r1, r2⟩
    have hcells := cells_vc g2 (fun fs e => htup fs e)
    simp [Instr.box, newVar, newRow, newObj, Sem.run, hcells]
  · cases he

end
end Go.Fw
