/- Part of a proof that a law returns true for every input. No condition. -/
import Derived.Test.YtncnipaofaeaiaaFw12
import Derived.Laws.Tables
namespace Go.Fw

section
variable {C : Cx} {w0 w : World} {F0 X F : Nat → Prop} {S : Nat → Nat → Prop} {s s1 : St} {tm : Nat → Value} {av : AV}

theorem range_cells (z : List Value) : ∀ n, (List.range (n * z.length)).map (fun i => z[i % z.length]!) = (List.replicate n z).flatten
  | 0 => by simp
  | n + 1 => by
    rw [Nat.add_mul, Nat.one_mul, List.range_add, List.map_append, range_cells z n, List.replicate_succ', List.flatten_append]
    congr 1
    simp only [List.map_map, List.flatten_cons, List.flatten_nil, List.append_nil]
    apply List.ext_getElem
    · simp
    · intro i h1 h2
      have hi : i < z.length := h2
      simp [Nat.mod_eq_of_lt hi, hi]

theorem RVs.replicate {d : AV} {cs : List Value} (h : ∀ S', RV w F d cs S') : ∀ n S', RVs w F (List.replicate n d) (List.replicate n cs).flatten S'
  | 0, S' => by simp only [List.replicate_zero, List.flatten_nil]; rw [RVs]
  | n + 1, S' => by
    rw [List.replicate_succ, List.replicate_succ, List.flatten_cons, RVs]
    exact ⟨cs, _, fun _ => False, fun _ => False, rfl, h _, RVs.replicate h n _, fun _ h => h.elim, fun _ h => h.elim, fun _ h => h.elim⟩

/-- make([]T, n). -/
def mks (C : Cx) (T : TypeId) (l c : AV) : Option AV :=
  match (C.T T).k, l, c with
  | .slice e, .int .i64 n, .int .i64 m => if n = m ∧ 0 ≤ n ∧ (C.T e).ok = true ∧ (C.T e).zero.wd = (C.T e).sz ∧ (flat (C.T e).zero).isSome = true ∧ (C.T e).sz ≠ 0 ∧ (C.T e).bytes * n ≤ 140737488355328 ∧ n ≤ 9223372036854775807 then
      some (.uslice (C.T e).sz (List.replicate n.toNat (C.T e).zero)) else none
  | _, _, _ => none

theorem mks_good (hC : C.Ok) (h : RelX w0 F0 X F S s tm w) {T : TypeId} {l c : AV} {vl vcc : Value} (hl : SV w F s tm l vl (fun _ => False)) (hc : SV w F s tm c vcc (fun _ => False)) (he : mks C T l c = some av) :
    Good C w0 F0 X tm w (Instr.makeSlice T vl vcc) av s := by
  unfold mks at he
  split at he
  · rename_i e n m hk
    have := sv_int hl; subst this
    have := sv_int hc; subst this
    obtain ⟨iT, d, zT, e1, e2, e3, e4, e5, e6, e7⟩ := hC.info (ok_of_k hk (by simp))
    rw [hk] at e7
    have := desc_slice e7; subst this
    split at he
    · rename_i hcond
      obtain ⟨rfl, hn, hek, hzw, hzf, hsz, hby, h63⟩ := hcond
      simp only [Option.some.injEq] at he; subst he
      obtain ⟨i, de, z, f1, f2, f3, f4, f5, f6, f7⟩ := hC.info hek
      obtain ⟨zc, hzc⟩ := Option.isSome_iff_exists.1 hzf
      have hzcells := f5 zc hzc
      have hrv : ∀ S', RV w F (C.T e).zero zc S' := fun S' => (RV.flat _).1 _ zc S' (Nat.le_refl _) hzc
      have hzl : zc.length = (C.T e).sz := by rw [RV.length _ _ _ (hrv (fun _ => False)), hzw]
      obtain ⟨n, rfl⟩ := Int.eq_ofNat_of_zero_le hn
      simp only [Int.toNat_natCast]
      have hwrap : IntKind.i64.wrap (n : Int) = n := by
        rw [IntKind.wrap_i64]; omega
      have hask : ∀ k (w : World), (askRoom k).run C.P w = .ok () w := by
        intro k w
        unfold askRoom
        split <;> rfl
      have hcells : ((Array.range (n * (C.T e).sz)).map (zc.toArray[· % zc.toArray.size]!)).toList = (List.replicate n zc).flatten := by
        have := range_cells zc n
        rw [hzl] at this
        simpa [hzl] using this
      have hlt : ¬ (281474976710656 < (i.bytes : Int) * n) := by
        rw [f3]; omega
      have hneg : ¬ ((n : Int) < 0) := by omega
      have run : (Instr.makeSlice T (.int .i64 n) (.int .i64 n)).run C.P w = .ok (.slice (some ⟨w.heap.size, 0, none⟩) n n)
          (w.alloc (.cells (if n * (C.T e).sz = 0 then (Array.range (n * (C.T e).sz)).map (fun _ => default) else (Array.range (n * (C.T e).sz)).map (zc.toArray[· % zc.toArray.size]!)) e)) := by
        by_cases h0 : n * (C.T e).sz = 0
        · simp [Instr.makeSlice, run_underlying e6, asInt, asIntOf, run_typeInfo' f1, hwrap, hlt, hneg, hask, run_sizeOf' f1, f2, h0, newRow]
        · simp only [h0, if_false]
          simp [Instr.makeSlice, run_underlying e6, asInt, asIntOf, run_typeInfo' f1, hwrap, hlt, hneg, hask, run_sizeOf' f1, f2, h0, newRow, run_zeroValue' f1 f4, hzcells]
      have hcur : (if n * (C.T e).sz = 0 then (Array.range (n * (C.T e).sz)).map (fun _ => (default : Value)) else (Array.range (n * (C.T e).sz)).map (zc.toArray[· % zc.toArray.size]!)).toList = (List.replicate n zc).flatten := by
        split
        · rename_i h0
          have : n = 0 := by
            rcases Nat.mul_eq_zero.1 h0 with h | h
            · exact h
            · exact (hsz h).elim
          subst this
          simp
        · exact hcells
      generalize hcv : (if n * (C.T e).sz = 0 then (Array.range (n * (C.T e).sz)).map (fun _ => (default : Value)) else (Array.range (n * (C.T e).sz)).map (zc.toArray[· % zc.toArray.size]!)) = cur at run hcur
      have hfl : (List.replicate n zc).flatten.length = n * (C.T e).sz := by simp [hzl]
      have hcs : cur.size = n * (C.T e).sz := by
        have : cur.size = cur.toList.length := by simp
        rw [this, hcur, hfl]
      have hnew := h.newS (w' := w.alloc (.cells cur e)) (sz := (C.T e).sz) (cap := n) (xs := List.replicate n (C.T e).zero) (cur := cur) (e := e) (fr := (0, 0)) (Sn := fun _ => False) rfl rfl rfl rfl
        (fun o _ ⟨_, h2⟩ => absurd h2 (Nat.not_lt_zero _)) (by simp) (by unfold maxLen; omega) hcs (by intro d hd; rw [List.eq_of_mem_replicate hd]; exact hzw)
        (by rw [hcur, List.length_replicate, List.take_of_length_le (by rw [hfl]; exact Nat.le_refl _)]; exact RVs.replicate hrv n _) (fun _ h => h.elim) (fun _ h => h.elim) (fun _ _ h => h.elim) (fun _ h => h.elim)
      rw [List.length_replicate] at hnew
      exact ⟨_, _, F, S, run, hnew.1, hnew.2⟩
    · cases he
  · cases he

/-- A closure: what it captures are aliases. -/
def mkf (s : St) (f : FuncId) (cs : List SX) : Option AV := some (.fn f (cs.map (ev s)))

theorem svs_map {a : Act} (h : RelX w0 F0 X F S s tm w) (htm : ∀ t, tm t = a.tmps.getD t undef) : ∀ (os : List Operand) (xs : List SX), os.map slimX = xs.map some → SVs w F s tm (xs.map (ev s)) (os.map a.eval)
  | [], [], _ => by simp only [List.map_nil]; rw [SVs]
  | [], x :: xs, h => by simp at h
  | o :: os, [], h => by simp at h
  | o :: os, x :: xs, h' => by
    simp only [List.map_cons, List.cons.injEq] at h' ⊢
    rw [SVs]
    exact ⟨_, _, rfl, (ev_sv h htm h'.1).2, svs_map h htm os xs h'.2⟩

/-- The cells of one part laid over a row. -/
theorem fill_one : ∀ (vs : List Value) (k off : Nat) (A : Array Value) (l m r : List Value), A.toList = l ++ (m ++ r) → l.length = off + k → m.length = vs.length →
    ((vs.zipIdx k).foldl (fun cs (x : Value × Nat) => cs.setIfInBounds (off + x.2) x.1) A).toList = l ++ (vs ++ r)
  | [], k, off, A, l, m, r, hA, hl, hm => by
    have : m = [] := by simpa using hm
    subst this
    simpa using hA
  | v :: vs, k, off, A, l, m, r, hA, hl, hm => by
    obtain ⟨x, m, rfl⟩ : ∃ x m', m = x :: m' := by
      cases m with
      | nil => simp at hm
      | cons x m => exact ⟨x, m, rfl⟩
    rw [List.zipIdx_cons, List.foldl_cons]
    have := fill_one vs (k + 1) off (A.setIfInBounds (off + k) v) (l ++ [v]) m r (by
      rw [Array.toList_setIfInBounds, hA, ← hl, List.set_append_right _ _ (Nat.le_refl _)]
      simp) (by simp; omega) (by simpa using hm)
    simpa using this

def pkOs (os : List (Option Nat)) (a : AV) : AV := os.foldl (fun a o => pkO o a) a

/-- Parts laid over a row, each taken. -/
def flw (place : Nat → Option (Nat × Nat)) : St → List AV → List (Option Nat) → List (Nat × AV) → Option (List AV × St)
  | s, zs, _, [] => some (zs, s)
  | s, zs, os, (k, a) :: r => match tk s (pkOs os a), place k, zs[k]? with
    | some (d, s1), some (off, n), some z => match d with
      | .tuple _ => none
      | d => if d.wd = n ∧ z.wd = n ∧ AV.wds (zs.take k) = off then flw place s1 (zs.set k d) (os ++ [(pkOs os a).owner]) r else none
    | _, _, _ => none

def Pairs (w : World) (F : Nat → Prop) (s : St) (tm : Nat → Value) : List (Nat × AV) → List (Nat × Value) → Prop
  | [], [] => True
  | (k, a) :: r, (k', v) :: r' => k = k' ∧ a.plain = true ∧ SV w F s tm a v (fun _ => False) ∧ Pairs w F s tm r r'
  | _, _ => False

theorem pk_plain (x : Nat) : ∀ d : AV, d.plain = true → (pk x d).plain = true
  | .h y q, _ => by simp only [pk]; split <;> (try split) <;> rfl
  | .hp y q, _ => by simp only [pk]; split <;> rfl
  | .fn f c, _ => by simp only [pk]; rfl
  | .hole, h => h
  | .bool _, h => h
  | .anyb, h => h
  | .int _ _, h => h
  | .str _, h => h
  | .nilp, h => h
  | .nils, h => h
  | .slice _, h => h
  | .uslice _ _, h => h
  | .ref _, h => h
  | .ubox _, h => h
  | .agg _, h => h
  | .tuple _, h => h

theorem pkO_plain (o : Option Nat) (d : AV) (h : d.plain = true) : (pkO o d).plain = true := by
  cases o with
  | none => exact h
  | some x => exact pk_plain x d h

theorem Pairs.pk {w : World} {F : Nat → Prop} {s s1 : St} {tm : Nat → Value} {o : Option Nat} (hp : ∀ (d' : AV) (v' : Value) (S' : Nat → Prop), SV w F s tm d' v' S' → SV w F s1 tm (pkO o d') v' S') :
    ∀ (r : List (Nat × AV)) (r' : List (Nat × Value)), Pairs w F s tm r r' → Pairs w F s1 tm (r.map fun p => (p.1, pkO o p.2)) r'
  | [], [], _ => trivial
  | (k, a) :: r, (k', v) :: r', h => by
    obtain ⟨h1, h2, h3, h4⟩ := h
    exact ⟨h1, pkO_plain _ _ h2, hp _ _ _ h3, Pairs.pk hp r r' h4⟩
  | [], _ :: _, h => h.elim
  | _ :: _, [], h => h.elim

theorem flw_good {place : Nat → Option (Nat × Nat)} : ∀ (ps : List (Nat × AV)) (vs : List (Nat × Value)) (os : List (Option Nat)) (s : St) (S : Nat → Nat → Prop) (zs : List AV) (A : Array Value) (Sa : Nat → Prop),
    RelX w0 F0 X F S s tm w → Pairs w F s tm (ps.map fun p => (p.1, pkOs os p.2)) vs → RVs w F zs A.toList Sa → (∀ b, Sa b → b < w.heap.size) → (∀ b, Sa b → ¬ F b) → (∀ u b, Sa b → ¬ S u b) → (∀ b, Sa b → X b ∨ w0.heap.size ≤ b) →
    ∀ ds s1, flw place s zs os ps = some (ds, s1) → ∃ A' S1 Sb, Instr.fill place A vs = some A' ∧ RelX w0 F0 X F S1 s1 tm w ∧ RVs w F ds A'.toList Sb ∧ (∀ b, Sb b → b < w.heap.size) ∧ (∀ b, Sb b → ¬ F b) ∧ (∀ u b, Sb b → ¬ S1 u b) ∧
      (∀ b, Sb b → X b ∨ w0.heap.size ≤ b) ∧ ds.length = zs.length ∧ AV.wds ds = AV.wds zs ∧ (∀ n, (∀ d ∈ zs, d.wd = n) → ∀ d ∈ ds, d.wd = n)
  | [], [], os, s, S, zs, A, Sa, h, _, h1, h2, h3, h4, h5, ds, s1, he => by
    simp only [flw, Option.some.injEq, Prod.mk.injEq] at he
    obtain ⟨rfl, rfl⟩ := he
    exact ⟨A, S, Sa, rfl, h, h1, h2, h3, h4, h5, rfl, rfl, fun _ h => h⟩
  | (k, a) :: ps, (k', v) :: vs, os, s, S, zs, A, Sa, h, hp, h1, h2, h3, h4, h5, ds, s1, he => by
    obtain ⟨rfl, hap, hav, hps⟩ := hp
    simp only [flw] at he
    split at he
    · rename_i d sx off n z ht hpl hz
      have key : ∀ d : AV, (∀ fs, d ≠ .tuple fs) → tk s (pkOs os a) = some (d, sx) → (if d.wd = n ∧ z.wd = n ∧ AV.wds (zs.take k) = off then flw place sx (zs.set k d) (os ++ [(pkOs os a).owner]) ps else none) = some (ds, s1) →
          ∃ A' S1 Sb, Instr.fill place A ((k, v) :: vs) = some A' ∧ RelX w0 F0 X F S1 s1 tm w ∧ RVs w F ds A'.toList Sb ∧ (∀ b, Sb b → b < w.heap.size) ∧ (∀ b, Sb b → ¬ F b) ∧ (∀ u b, Sb b → ¬ S1 u b) ∧
          (∀ b, Sb b → X b ∨ w0.heap.size ≤ b) ∧ ds.length = zs.length ∧ AV.wds ds = AV.wds zs ∧ (∀ n, (∀ d ∈ zs, d.wd = n) → ∀ d ∈ ds, d.wd = n) := by
        intro d htup ht he
        split at he
        · rename_i hc
          obtain ⟨hc1, hc2, hc3⟩ := hc
          obtain ⟨S1, g0, g1, g2, Sn, g3, g4, g5, g6, g7, g8, g9, g10⟩ := tk_sv h hap hav ht
          obtain ⟨c1, ck, c2, Sx, Sk, hA, p0, p1, p2, p3, p5, p6⟩ := RVs.pick zs _ _ k z h1 hz
          have hcells := cells_vc g2 htup
          have hvl := RV.length _ _ _ g3
          have hckl := RV.length _ _ _ p5
          have hset := p6 w d (vc v) Sn (fun _ _ => rfl) (fun _ _ => rfl) g3 (fun b h1' h2' => by obtain ⟨u, hu⟩ := g9 b h1'; exact h4 u b (p1 b h2') hu)
          have hfill := fill_one (vc v) 0 off A c1 ck c2 hA (by rw [p0, hc3]; rfl) (by rw [hckl, hvl, hc1, hc2])
          generalize hA' : ((vc v).zipIdx 0).foldl (fun cs (x : Value × Nat) => cs.setIfInBounds (off + x.2) x.1) A = A1 at hfill
          obtain ⟨A', S2, Sb, m1, m2, m3, m4, m5, m6, m7, m8, m9, m10⟩ := flw_good (place := place) ps vs (os ++ [(pkOs os a).owner]) sx S1 (zs.set k d) A1 (fun b => Sx b ∨ Sn b) g0 (by have := Pairs.pk g10 _ _ hps; simpa [pkOs, List.foldl_append, Function.comp_def] using this) (by rw [hfill]; exact hset)
            (by rintro b (hb | hb); exact h2 b (p1 b hb); exact g4 b hb) (by rintro b (hb | hb); exact h3 b (p1 b hb); exact g5 b hb)
            (by rintro u b (hb | hb); exact fun hu => h4 u b (p1 b hb) (g8 u b hu); exact g6 u b hb) (by rintro b (hb | hb); exact h5 b (p1 b hb); exact g7 b hb) ds s1 he
          refine ⟨A', S2, Sb, ?_, m2, m3, m4, m5, m6, m7, by rw [m8]; simp, by rw [m9]; exact wds_set _ _ _ _ hz (by rw [hc1, hc2]), ?_⟩
          · have hAl : off + n ≤ A.size := by
              have : A.size = A.toList.length := by simp
              rw [this, hA]; simp [p0, hc3, hckl, hc2]
            simp only [Instr.fill, hpl, hcells, List.size_toArray, hvl, hc1]
            have hno : ¬ (n ≠ n ∨ A.size < off + n) := by omega
            have hz' : (vc v).toArray.zipIdx.foldl (fun cs (x : Value × Nat) => cs.setIfInBounds (off + x.2) x.1) A = A1 := by
              rw [← hA', ← Array.foldl_toList]; simp
            simp only [ne_eq, not_true_eq_false, decide_false, Bool.false_or, decide_eq_true_eq, gt_iff_lt]
            rw [if_neg (by simp; omega)]
            rw [show (vc v).toArray.zipIdx.foldl (fun cs x => match x with | (c, j) => cs.setIfInBounds (off + j) c) A = A1 from hz']
            exact m1
          · intro n' hn'
            refine m10 n' (mem_set_wd hn' ?_)
            rw [hc1, ← hc2]; exact hn' z (List.mem_of_getElem? hz)
        · cases he
      split at he
      · cases he
      · rename_i htup
        exact key _ (fun fs e => htup fs e) ht he
    · cases he
  | [], _ :: _, _, _, _, _, _, _, _, hp, _, _, _, _, _, _, _, _ => hp.elim
  | _ :: _, [], _, _, _, _, _, _, _, hp, _, _, _, _, _, _, _, _ => hp.elim


/-- A struct of parts. -/
def bld (C : Cx) (s : St) (T : TypeId) (ps : List (Nat × AV)) : Option (AV × St) :=
  match (C.T T).k, (C.T T).zero with
  | .struct fs, .agg zs => if (flat (.agg zs)).isSome = true ∧ (∀ f ∈ fs, (C.T f.1).ok = true) then
      (match flw (fun k => (fs[k]?).map fun f => (f.2, (C.T f.1).sz)) s zs [] ps with
      | some (ds, s1) => some (.agg ds, s1)
      | none => none) else none
  | _, _ => none

/-- A row of parts. -/
def bsl (C : Cx) (s : St) (T : TypeId) (n : Nat) (ps : List (Nat × AV)) : Option (AV × St) :=
  match (C.T T).k with
  | .slice e => if (C.T e).ok = true ∧ (C.T e).zero.wd = (C.T e).sz ∧ (flat (C.T e).zero).isSome = true ∧ (C.T e).sz ≠ 0 ∧ n * (C.T e).sz ≤ 16777216 then
      (match flw (fun k => some (k * (C.T e).sz, (C.T e).sz)) s (List.replicate n (C.T e).zero) [] ps with
      | some (ds, s1) => some (.uslice (C.T e).sz ds, s1)
      | none => none) else none
  | _ => none

theorem mapM_places (hC : C.Ok) : ∀ (gs : List Field), (∀ g ∈ gs, (C.T g.type).ok = true) →
    gs.mapM (fun f => (C.P.info? f.type).map fun i => (f.offset, i.size)) = some (gs.map fun g => (g.offset, (C.T g.type).sz)) := by
  intro gs
  induction gs with
  | nil => intro _; simp
  | cons g gs ih =>
    intro hg
    obtain ⟨i, d, z, f1, f2, f3, f4, f5, f6, f7⟩ := hC.info (hg g (by simp))
    have := ih (fun g hg' => hg g (by simp [hg']))
    simp [List.mapM_cons, f1, f2, this]

theorem bld_good (hC : C.Ok) (h : RelX w0 F0 X F S s tm w) {T : TypeId} {ps : List (Nat × AV)} {vs : List (Nat × Value)} (hp : Pairs w F s tm ps vs) (he : bld C s T ps = some (av, s1)) :
    Good C w0 F0 X tm w (Instr.build T vs.toArray) av s1 := by
  unfold bld at he
  split at he
  · rename_i fs zs hk hz
    split at he
    · rename_i hc
      obtain ⟨hzf, hfs⟩ := hc
      split at he
      · rename_i ds s2 hfl
        simp only [Option.some.injEq, Prod.mk.injEq] at he
        obtain ⟨rfl, rfl⟩ := he
        obtain ⟨i, d, z, e1, e2, e3, e4, e5, e6, e7⟩ := hC.info (ok_of_k hk (by simp))
        rw [hk] at e7
        obtain ⟨gs, rfl, hgs⟩ := desc_struct e7
        obtain ⟨zc, hzc⟩ := Option.isSome_iff_exists.1 hzf
        have hzcells := e5 zc (by rw [hz]; exact hzc)
        have hrv : RVs w F zs zc.toArray.toList (fun _ => False) := by
          have := (RV.flat (w := w) (F := F) _).1 (.agg zs) zc (fun _ => False) (Nat.le_refl _) hzc
          rw [RV] at this
          simpa using this
        have hp' : Pairs w F s tm (ps.map fun p => (p.1, pkOs [] p.2)) vs := by simpa [pkOs] using hp
        obtain ⟨A', S1, Sb, m1, m2, m3, m4, m5, m6, m7, m8, m9, m10⟩ := flw_good ps vs [] s S zs zc.toArray (fun _ => False) h hp' hrv (fun _ h => h.elim) (fun _ h => h.elim) (fun _ _ h => h.elim) (fun _ h => h.elim) ds s2 hfl
        have hpl := mapM_places hC gs.toList (fun g hg => hfs (g.type, g.offset) (by rw [← hgs]; exact List.mem_map_of_mem hg))
        have hfun : (fun (k : Nat) => (fs[k]?).map fun (f : TypeId × Nat) => (f.2, (C.T f.1).sz)) = fun (k : Nat) => ((gs.toList.map fun g => (g.offset, (C.T g.type).sz)).toArray)[k]? := by
          funext k
          rw [← hgs]
          simp only [List.getElem?_map, List.getElem?_toArray, Option.map_map]
          rfl
        rw [hfun] at m1
        refine ⟨.agg A', w, F, S1, run_build w T vs.toArray A' ?_, m2, .inr ⟨rfl, ⟨_, rfl⟩, Sb, by simp only [vc, vc1]; rw [RV]; exact m3, m4, m5, m6, m7⟩⟩
        unfold Program.built
        simp only [e1, e6, e4, hpl, hzcells]
        exact m1
      · cases he
    · cases he
  · cases he


theorem bsl_good (hC : C.Ok) (h : RelX w0 F0 X F S s tm w) {T : TypeId} {n : Nat} {ps : List (Nat × AV)} {vs : List (Nat × Value)} (hp : Pairs w F s tm ps vs) (he : bsl C s T n ps = some (av, s1)) :
    Good C w0 F0 X tm w (Instr.buildSlice T n vs.toArray) av s1 := by
  unfold bsl at he
  split at he
  · rename_i e hk
    split at he
    · rename_i hc
      obtain ⟨hek, hzw, hzf, hsz, hsmall⟩ := hc
      split at he
      · rename_i ds s2 hfl
        simp only [Option.some.injEq, Prod.mk.injEq] at he
        obtain ⟨rfl, rfl⟩ := he
        obtain ⟨iT, d, zT, e1, e2, e3, e4, e5, e6, e7⟩ := hC.info (ok_of_k hk (by simp))
        rw [hk] at e7
        have := desc_slice e7; subst this
        obtain ⟨i, de, z, f1, f2, f3, f4, f5, f6, f7⟩ := hC.info hek
        obtain ⟨zc, hzc⟩ := Option.isSome_iff_exists.1 hzf
        have hzcells := f5 zc hzc
        have hrv : ∀ S', RV w F (C.T e).zero zc S' := fun S' => (RV.flat _).1 _ zc S' (Nat.le_refl _) hzc
        have hzl : zc.length = (C.T e).sz := by rw [RV.length _ _ _ (hrv (fun _ => False)), hzw]
        -- the row at first
        generalize hA : ((Array.range (n * (C.T e).sz)).map ((if n * (C.T e).sz = 0 then #[] else zc.toArray)[· % (if n * (C.T e).sz = 0 then (#[] : Array Value) else zc.toArray).size]!)) = A
        have hAl : A.toList = (List.replicate n zc).flatten := by
          rw [← hA]
          by_cases h0 : n * (C.T e).sz = 0
          · have : n = 0 := by
              rcases Nat.mul_eq_zero.1 h0 with h | h
              · exact h
              · exact (hsz h).elim
            subst this
            simp
          · simp only [h0, if_false]
            have := range_cells zc n
            rw [hzl] at this
            simpa [hzl] using this
        have hp' : Pairs w F s tm (ps.map fun p => (p.1, pkOs [] p.2)) vs := by simpa [pkOs] using hp
        obtain ⟨A', S1, Sb, m1, m2, m3, m4, m5, m6, m7, m8, m9, m10⟩ := flw_good ps vs [] s S (List.replicate n (C.T e).zero) A (fun _ => False) h hp' (by rw [hAl]; exact RVs.replicate hrv n _) (fun _ h => h.elim) (fun _ h => h.elim) (fun _ _ h => h.elim) (fun _ h => h.elim) ds s2 hfl
        have hlen : ds.length = n := by rw [m8]; simp
        have hdw := m10 (C.T e).sz (by intro d hd; rw [List.eq_of_mem_replicate hd]; exact hzw)
        have hA'l : A'.toList.length = n * (C.T e).sz := by rw [RVs.elems_wd m3 hdw, hlen]
        have hA's : A'.size = n * (C.T e).sz := by rw [← hA'l]; simp
        have hn63 : n ≤ 16777216 := by
          have : n * 1 ≤ n * (C.T e).sz := Nat.mul_le_mul_left _ (by omega)
          omega
        have hnew := m2.newS (w' := w.alloc (.cells A' e)) (sz := (C.T e).sz) (cap := n) (xs := ds) (cur := A') (e := e) (fr := (0, 0)) (Sn := Sb) rfl rfl rfl rfl
          (fun o _ ⟨_, h2⟩ => absurd h2 (Nat.not_lt_zero _)) (by omega) (by unfold maxLen; omega) hA's hdw (by rw [hlen, List.take_of_length_le (by omega)]; exact m3) m4 m5 m6 m7
        rw [hlen] at hnew
        refine ⟨_, _, F, S1, ?_, hnew.1, hnew.2⟩
        by_cases h0 : n * (C.T e).sz = 0
        · simp only [h0, if_true] at hA
          have hA0 : (Array.map (fun _ => (default : Value)) (Array.range 0)) = A := by
            have : n = 0 := by
              rcases Nat.mul_eq_zero.1 h0 with h | h
              · exact h
              · exact (hsz h).elim
            apply Array.ext'
            rw [hAl, this]
            simp
          simp [Instr.buildSlice, run_underlying e6, run_sizeOf' f1, f2, h0, newRow]
          rw [hA0, m1]
          simp
        · simp only [h0, if_false] at hA
          have hno : ¬ (16777216 < n * (C.T e).sz) := by omega
          simp [Instr.buildSlice, run_underlying e6, run_sizeOf' f1, f2, h0, hno, run_zeroValue' f1 f4, hzcells, newRow]
          have hA0 : (Array.map (fun x => zc[x % zc.length]?.getD default) (Array.range (n * (C.T e).sz))) = A := by
            rw [← hA]; simp
          rw [hA0, m1]
          simp
      · cases he
    · cases he
  · cases he

end
end Go.Fw
