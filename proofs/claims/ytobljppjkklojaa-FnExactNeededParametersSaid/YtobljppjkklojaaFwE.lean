/- Part of a proof that a law returns true for every input. No condition. -/
import Derived.Test.YtobljppjkklojaaFwD
import Derived.Laws.Tables
namespace Go.Fw
section
variable {C : Cx} {w0 w : World} {F0 X F : Nat → Prop} {S : Nat → Nat → Prop} {s s1 : St} {tm : Nat → Value} {av : AV}
theorem range_cells (z : List Value) : ∀ n, (List.range (n * z.length)).map (fun i => z[i % z.length]!) = (List.replicate n z).flatten
 | 0 => by simp
 | n + 1 => by
   rw [Nat.add_mul, Nat.one_mul, List.range_add, List.map_append, range_cells z n, List.replicate_succ', List.flatten_append]
   congr 1
   simp only [List.map_map, List.flatten_cons, List.flatten_nil, List.append_nil]
   apply List.ext_getElem
   ·simp
   ·intro i h1 h2
    have hi : i < z.length := h2
    simp [Nat.mod_eq_of_lt hi, hi]
theorem RVs.replicate {d : AV} {cs : List Value} (h : ∀ S', RV w F d cs S') : ∀ n S', RVs w F (List.replicate n d) (List.replicate n cs).flatten S'
 | 0, S' => by simp only [List.replicate_zero, List.flatten_nil]; rw [RVs]
 | n + 1, S' => by
   rw [List.replicate_succ, List.replicate_succ, List.flatten_cons, RVs]
   exact ⟨cs, _, fun _ => False, fun _ => False, rfl, h _, RVs.replicate h n _, fun _ h => h.elim, fun _ h => h.elim, fun _ h => h.elim⟩
def mks (C : Cx) (T : TypeId) (l c : AV) : Option AV :=
 match (C.T T).k, l, c with
 | .slice e, .int .i64 n, .int .i64 m => if n = m ∧ 0 ≤ n ∧ (C.T e).ok = true ∧ (C.T e).zero.wd = (C.T e).sz ∧ (flat (C.T e).zero).isSome = true ∧ (C.T e).sz ≠ 0 ∧ (C.T e).bytes * n ≤ 140737488355328 ∧ n ≤ 9223372036854775807 then
   some (.uslice (C.T e).sz (List.replicate n.toNat (C.T e).zero)) else none
 | _, _, _ => none
theorem mks_good (hC : C.Ok) (h : RelX w0 F0 X F S s tm w) {T : TypeId} {l c : AV} {vl vcc : Value} (hl : SV w F s tm l vl (fun _ => False)) (hc : SV w F s tm c vcc (fun _ => False)) (he : mks C T l c = some av) :
  Good C w0 F0 X tm w (Instr.makeSlice T vl vcc) av s := by
 unfold mks at he
 split at he
 ·rename_i e n m hk
  have := sv_int hl; subst this
  have := sv_int hc; subst this
  obtain ⟨iT, d, zT, e1, e2, e3, e4, e5, e6, e7⟩ := hC.info (ok_of_k hk (by simp))
  rw [hk] at e7
  have := desc_slice e7; subst this
  split at he
  ·rename_i hcond
   obtain ⟨rfl, hn, hek, hzw, hzf, hsz, hby, h63⟩ := hcond
   simp only [Option.some.injEq] at he; subst he
   obtain ⟨i, de, z, f1, f2, f3, f4, f5, f6, f7⟩ := hC.info hek
   obtain ⟨zc, hzc⟩ := Option.isSome_iff_exists.1 hzf
   have hzcells := f5 zc hzc
   have hrv : ∀ S', RV w F (C.T e).zero zc S' := fun S' => (RV.flat _).1 _ zc S' (Nat.le_refl _) hzc
   have hzl : zc.length = (C.T e).sz := by rw [RV.length _ _ _ (hrv (fun _ => False)), hzw]
   obtain ⟨n, rfl⟩ := Int.eq_ofNat_of_zero_le hn
   simp only [Int.toNat_natCast]
   have hwrap : IntKind.i64.wrap (n : Int) = n := by
    rw [IntKind.wrap_i64]; omega
   have hask : ∀ k (w : World), (askRoom k).run C.P w = .ok () w := by
    intro k w
    unfold askRoom
    split <;> rfl
   have hcells : ((Array.range (n * (C.T e).sz)).map (zc.toArray[· % zc.toArray.size]!)).toList = (List.replicate n zc).flatten := by
    have := range_cells zc n
    rw [hzl] at this
    simpa [hzl] using this
   have hlt : ¬ (281474976710656 < (i.bytes : Int) * n) := by
    rw [f3]; omega
   have hneg : ¬ ((n : Int) < 0) := by omega
   have run : (Instr.makeSlice T (.int .i64 n) (.int .i64 n)).run C.P w = .ok (.slice (some ⟨w.heap.size, 0, none⟩) n n)
     (w.alloc (.cells (if n * (C.T e).sz = 0 then (Array.range (n * (C.T e).sz)).map (fun _ => default) else (Array.range (n * (C.T e).sz)).map (zc.toArray[· % zc.toArray.size]!)) e)) := by
    by_cases h0 : n * (C.T e).sz = 0
    ·simp [Instr.makeSlice, run_underlying e6, asInt, asIntOf, run_typeInfo' f1, hwrap, hlt, hneg, hask, run_sizeOf' f1, f2, h0, newRow]
    ·simp only [h0, if_false]
     simp [Instr.makeSlice, run_underlying e6, asInt, asIntOf, run_typeInfo' f1, hwrap, hlt, hneg, hask, run_sizeOf' f1, f2, h0, newRow, run_zeroValue' f1 f4, hzcells]
   have hcur : (if n * (C.T e).sz = 0 then (Array.range (n * (C.T e).sz)).map (fun _ => (default : Value)) else (Array.range (n * (C.T e).sz)).map (zc.toArray[· % zc.toArray.size]!)).toList = (List.replicate n zc).flatten := by
    split
    ·rename_i h0
     have : n = 0 := by
      rcases Nat.mul_eq_zero.1 h0 with h | h
      ·exact h
      ·exact (hsz h).elim
     subst this
     simp
    ·exact hcells
   generalize hcv : (if n * (C.T e).sz = 0 then (Array.range (n * (C.T e).sz)).map (fun _ => (default : Value)) else (Array.range (n * (C.T e).sz)).map (zc.toArray[· % zc.toArray.size]!)) = cur at run hcur
   have hfl : (List.replicate n zc).flatten.length = n * (C.T e).sz := by simp [hzl]
   have hcs : cur.size = n * (C.T e).sz := by
    have : cur.size = cur.toList.length := by simp
    rw [this, hcur, hfl]
   have hnew := h.newS (w' := w.alloc (.cells cur e)) (sz := (C.T e).sz) (cap := n) (xs := List.replicate n (C.T e).zero) (cur := cur) (e := e) (fr := (0, 0)) (Sn := fun _ => False) rfl rfl rfl rfl
    (fun o _ ⟨_, h2⟩ => absurd h2 (Nat.not_lt_zero _)) (by simp) (by unfold maxLen; omega) hcs (by intro d hd; rw [List.eq_of_mem_replicate hd]; exact hzw)
    (by rw [hcur, List.length_replicate, List.take_of_length_le (by rw [hfl]; exact Nat.le_refl _)]; exact RVs.replicate hrv n _) (fun _ h => h.elim) (fun _ h => h.elim) (fun _ _ h => h.elim) (fun _ h => h.elim)
   rw [List.length_replicate] at hnew
   exact ⟨_, _, F, S, run, hnew.1, hnew.2⟩
  ·cases he
 ·cases he
def apz (C : Cx) (T U : TypeId) (x y : AV) : Option AV :=
 match (C.T T).k, (C.T U).k, x, y with
 | .slice e, .int _, .nils, .int .i64 n => if 0 ≤ n ∧ (C.T e).ok = true ∧ (C.T e).zero.wd = (C.T e).sz ∧ (flat (C.T e).zero).isSome = true ∧ (C.T e).sz ≠ 0 ∧ (C.T e).bytes * n ≤ 140737488355328 ∧ n ≤ 9223372036854775807 then
   some (.uslice (C.T e).sz (List.replicate n.toNat (C.T e).zero)) else none
 | _, _, _, _ => none
theorem run_append_zero {P : Program} {T U ty e : TypeId} {k : IntKind} {i : TypeInfo} {z : Value} (ht : P.underlying T = some (.slice e)) (hu : P.underlying U = some (.int k)) (hi : P.info? e = some i) (hz : i.zero = some z)
  (n : Nat) (h0 : n ≠ 0) (hs : i.size ≠ 0) (hn : n ≤ 9223372036854775807) (hb : n * i.bytes ≤ 140737488355328) :
  (Builtin.append_ #[T, U] ty #[.slice none 0 0, .int .i64 n]).run P w = .ok (.slice (some ⟨w.heap.size, 0, none⟩) n (grownCap w n 0 e))
   (w.drew.alloc (.cells (Builtin.zeroCells z.cells n ++ Builtin.zeroCells z.cells (grownCap w n 0 e - n)) e)) := by
 have hwrap : IntKind.i64.wrap (n : Int) = n := by rw [IntKind.wrap_i64]; omega
 have hneg : ¬ ((n : Int) < 0) := by omega
 have hmul : (n : Int) * (i.bytes : Int) = ((n * i.bytes : Nat) : Int) := by simp
 have hlt : ¬ (281474976710656 < (n : Int) * (i.bytes : Int)) := by rw [hmul]; omega
 have hfit : ¬ (281474976710656 < Builtin.nextslicecap n 0 * i.bytes) := by
  have : Builtin.nextslicecap n 0 = n := by unfold Builtin.nextslicecap; rw [if_pos (by omega)]
  rw [this]; omega
 have hask : ∀ k (w : World), (askRoom k).run P w = .ok () w := by
  intro k w
  unfold askRoom
  split <;> rfl
 have hif : ¬ (9223372036854775807 < (n : Int)) := by omega
 have hns : n * i.size ≠ 0 := Nat.mul_ne_zero h0 hs
 simp [Builtin.append_, run_underlying ht, run_underlying hu, run_sizeOf' hi, run_typeInfo' hi, asInt, asIntOf, hwrap, hneg, hlt, hfit, h0, Question.forced, hask, hif, run_zeroValue' hi hz, newRow, grownCap, Builtin.firstCells]
 intro hh; exact (hns hh).elim
theorem apz_good (hC : C.Ok) (h : RelX w0 F0 X F S s tm w) {T U ty : TypeId} {x y : AV} {vx vy : Value} (hx : SV w F s tm x vx (fun _ => False)) (hy : SV w F s tm y vy (fun _ => False)) (he : apz C T U x y = some av) :
  Good C w0 F0 X tm w (Builtin.append_ #[T, U] ty #[vx, vy]) av s := by
 unfold apz at he
 split at he
 ·rename_i e ku n hk hku
  have := sv_nils hx; subst this
  have := sv_int hy; subst this
  obtain ⟨iT, d, zT, e1, e2, e3, e4, e5, e6, e7⟩ := hC.info (ok_of_k hk (by simp))
  rw [hk] at e7
  have := desc_slice e7; subst this
  obtain ⟨iU, dU, zU, u1, u2, u3, u4, u5, u6, u7⟩ := hC.info (ok_of_k hku (by simp))
  rw [hku] at u7
  have := desc_int u7; subst this
  split at he
  ·rename_i hcond
   obtain ⟨hn, hek, hzw, hzf, hsz, hby, h63⟩ := hcond
   simp only [Option.some.injEq] at he; subst he
   obtain ⟨i, de, z, f1, f2, f3, f4, f5, f6, f7⟩ := hC.info hek
   obtain ⟨zc, hzc⟩ := Option.isSome_iff_exists.1 hzf
   have hzcells := f5 zc hzc
   have hrv : ∀ S', RV w F (C.T e).zero zc S' := fun S' => (RV.flat _).1 _ zc S' (Nat.le_refl _) hzc
   have hzl : zc.length = (C.T e).sz := by rw [RV.length _ _ _ (hrv (fun _ => False)), hzw]
   obtain ⟨n, rfl⟩ := Int.eq_ofNat_of_zero_le hn
   simp only [Int.toNat_natCast]
   by_cases h0 : n = 0
   ·subst h0
    have run : (Builtin.append_ #[T, U] ty #[.slice none 0 0, .int .i64 ((0 : Nat) : Int)]).run C.P w = .ok (.slice none 0 0) w := by
     have hwrap : IntKind.i64.wrap 0 = 0 := by decide
     simp [Builtin.append_, run_underlying e6, run_underlying u6, run_sizeOf' f1, run_typeInfo' f1, asInt, asIntOf, hwrap]
    exact ⟨_, w, F, S, run, h, .inr ⟨rfl, rfl, fun _ => False, by simp only [vc, vc1]; rw [RV]; exact .inl ⟨rfl, _, rfl⟩, fun _ h => h.elim, fun _ h => h.elim, fun _ _ h => h.elim, fun _ h => h.elim⟩⟩
   ·have run := run_append_zero (w := w) (ty := ty) e6 u6 f1 f4 n h0 (by rw [f2]; exact hsz) (by omega) (by
     rw [f3]
     have : ((C.T e).bytes : Int) * (n : Int) = (((C.T e).bytes * n : Nat) : Int) := by simp
     rw [this] at hby
     rw [Nat.mul_comm]; omega)
    rw [hzcells] at run
    have hge := grownCap_ge w n 0 e
    have hcm := grownCap_le_maxLen w n 0 e (by unfold maxLen; omega)
    have hzc1 : ∀ m, (Builtin.zeroCells zc.toArray m).toList = (List.replicate m zc).flatten := by
     intro m
     have := range_cells zc m
     unfold Builtin.zeroCells
     simpa [hzl] using this
    have hfl : ∀ m, (List.replicate m zc).flatten.length = m * (C.T e).sz := by intro m; simp [hzl]
    generalize hcv : Builtin.zeroCells zc.toArray n ++ Builtin.zeroCells zc.toArray (grownCap w n 0 e - n) = cur at run
    have hcur : cur.toList = (List.replicate n zc).flatten ++ (List.replicate (grownCap w n 0 e - n) zc).flatten := by rw [← hcv, Array.toList_append, hzc1, hzc1]
    have hcs : cur.size = grownCap w n 0 e * (C.T e).sz := by
     have : cur.size = cur.toList.length := by simp
     rw [this, hcur, List.length_append, hfl, hfl, ← Nat.add_mul]
     congr 1; omega
    have hnew := h.newS (w' := w.drew.alloc (.cells cur e)) (sz := (C.T e).sz) (cap := grownCap w n 0 e) (xs := List.replicate n (C.T e).zero) (cur := cur) (e := e) (fr := (0, 0)) (Sn := fun _ => False) rfl rfl rfl rfl
     (fun o _ ⟨_, h2⟩ => absurd h2 (Nat.not_lt_zero _)) (by simpa using hge) hcm hcs (by intro d hd; rw [List.eq_of_mem_replicate hd]; exact hzw)
     (by rw [hcur, List.length_replicate, List.take_left' (hfl n)]; exact RVs.replicate hrv n _) (fun _ h => h.elim) (fun _ h => h.elim) (fun _ _ h => h.elim) (fun _ h => h.elim)
    rw [List.length_replicate] at hnew
    exact ⟨_, _, F, S, run, hnew.1, hnew.2⟩
  ·cases he
 ·cases he
def mkf (s : St) (f : FuncId) (cs : List SX) : Option AV := some (.fn f (cs.map (ev s)))
theorem svs_map {a : Act} (h : RelX w0 F0 X F S s tm w) (htm : ∀ t, tm t = a.tmps.getD t undef) : ∀ (os : List Operand) (xs : List SX), os.map slimX = xs.map some → SVs w F s tm (xs.map (ev s)) (os.map a.eval)
 | [], [], _ => by simp only [List.map_nil]; rw [SVs]
 | [], x :: xs, h => by simp at h
 | o :: os, [], h => by simp at h
 | o :: os, x :: xs, h' => by
   simp only [List.map_cons, List.cons.injEq] at h' ⊢
   rw [SVs]
   exact ⟨_, _, rfl, (ev_sv h htm h'.1).2, svs_map h htm os xs h'.2⟩
theorem fill_one : ∀ (vs : List Value) (k off : Nat) (A : Array Value) (l m r : List Value), A.toList = l ++ (m ++ r) → l.length = off + k → m.length = vs.length →
  ((vs.zipIdx k).foldl (fun cs (x : Value × Nat) => cs.setIfInBounds (off + x.2) x.1) A).toList = l ++ (vs ++ r)
 | [], k, off, A, l, m, r, hA, hl, hm => by
   have : m = [] := by simpa using hm
   subst this
   simpa using hA
 | v :: vs, k, off, A, l, m, r, hA, hl, hm => by
   obtain ⟨x, m, rfl⟩ : ∃ x m', m = x :: m' := by
    cases m with
    | nil => simp at hm
    | cons x m => exact ⟨x, m, rfl⟩
   rw [List.zipIdx_cons, List.foldl_cons]
   have := fill_one vs (k + 1) off (A.setIfInBounds (off + k) v) (l ++ [v]) m r (by
    rw [Array.toList_setIfInBounds, hA, ← hl, List.set_append_right _ _ (Nat.le_refl _)]
    simp) (by simp; omega) (by simpa using hm)
   simpa using this
def pkOs (os : List (Option Nat)) (a : AV) : AV := os.foldl (fun a o => pkO o a) a
def flw (place : Nat → Option (Nat × Nat)) : St → List AV → List (Option Nat) → List (Nat × AV) → Option (List AV × St)
 | s, zs, _, [] => some (zs, s)
 | s, zs, os, (k, a) :: r => match tk s (pkOs os a), place k, zs[k]? with
   | some (d, s1), some (off, n), some z => match d with
     | .tuple _ => none
     | d => if d.wd = n ∧ z.wd = n ∧ AV.wds (zs.take k) = off then flw place s1 (zs.set k d) (os ++ [(pkOs os a).owner]) r else none
   | _, _, _ => none
def Pairs (w : World) (F : Nat → Prop) (s : St) (tm : Nat → Value) : List (Nat × AV) → List (Nat × Value) → Prop
 | [], [] => True
 | (k, a) :: r, (k', v) :: r' => k = k' ∧ a.plain = true ∧ SV w F s tm a v (fun _ => False) ∧ Pairs w F s tm r r'
 | _, _ => False
theorem pk_plain (x : Nat) : ∀ d : AV, d.plain = true → (pk x d).plain = true
 | .h y q, _ => by simp only [pk]; split <;> (try split) <;> rfl
 | .hp y q, _ => by simp only [pk]; split <;> rfl
 | .hb y q, _ => rfl
 | .fn f c, _ => by simp only [pk]; rfl
 | .hole, h => h
 | .bool _, h => h
 | .anyb, h => h
 | .int _ _, h => h
 | .str _, h => h
 | .nilp, h => h
 | .nils, h => h
 | .slice _, h => h
 | .uslice _ _, h => h
 | .ref _, h => h
 | .ubox _, h => h
 | .agg _, h => h
 | .tuple _, h => h
theorem pkO_plain (o : Option Nat) (d : AV) (h : d.plain = true) : (pkO o d).plain = true := by
 cases o with
 | none => exact h
 | some x => exact pk_plain x d h
theorem Pairs.pk {w : World} {F : Nat → Prop} {s s1 : St} {tm : Nat → Value} {o : Option Nat} (hp : ∀ (d' : AV) (v' : Value) (S' : Nat → Prop), SV w F s tm d' v' S' → SV w F s1 tm (pkO o d') v' S') :
  ∀ (r : List (Nat × AV)) (r' : List (Nat × Value)), Pairs w F s tm r r' → Pairs w F s1 tm (r.map fun p => (p.1, pkO o p.2)) r'
 | [], [], _ => trivial
 | (k, a) :: r, (k', v) :: r', h => by
   obtain ⟨h1, h2, h3, h4⟩ := h
   exact ⟨h1, pkO_plain _ _ h2, hp _ _ _ h3, Pairs.pk hp r r' h4⟩
 | [], _ :: _, h => h.elim
 | _ :: _, [], h => h.elim
theorem flw_good {place : Nat → Option (Nat × Nat)} : ∀ (ps : List (Nat × AV)) (vs : List (Nat × Value)) (os : List (Option Nat)) (s : St) (S : Nat → Nat → Prop) (zs : List AV) (A : Array Value) (Sa : Nat → Prop),
  RelX w0 F0 X F S s tm w → Pairs w F s tm (ps.map fun p => (p.1, pkOs os p.2)) vs → RVs w F zs A.toList Sa → (∀ b, Sa b → b < w.heap.size) → (∀ b, Sa b → ¬ F b) → (∀ u b, Sa b → ¬ S u b) → (∀ b, Sa b → X b ∨ w0.heap.size ≤ b) →
  ∀ ds s1, flw place s zs os ps = some (ds, s1) → ∃ A' S1 Sb, Instr.fill place A vs = some A' ∧ RelX w0 F0 X F S1 s1 tm w ∧ RVs w F ds A'.toList Sb ∧ (∀ b, Sb b → b < w.heap.size) ∧ (∀ b, Sb b → ¬ F b) ∧ (∀ u b, Sb b → ¬ S1 u b) ∧
    (∀ b, Sb b → X b ∨ w0.heap.size ≤ b) ∧ ds.length = zs.length ∧ AV.wds ds = AV.wds zs ∧ (∀ n, (∀ d ∈ zs, d.wd = n) → ∀ d ∈ ds, d.wd = n)
 | [], [], os, s, S, zs, A, Sa, h, _, h1, h2, h3, h4, h5, ds, s1, he => by
   simp only [flw, Option.some.injEq, Prod.mk.injEq] at he
   obtain ⟨rfl, rfl⟩ := he
   exact ⟨A, S, Sa, rfl, h, h1, h2, h3, h4, h5, rfl, rfl, fun _ h => h⟩
 | (k, a) :: ps, (k', v) :: vs, os, s, S, zs, A, Sa, h, hp, h1, h2, h3, h4, h5, ds, s1, he => by
   obtain ⟨rfl, hap, hav, hps⟩ := hp
   simp only [flw] at he
   split at he
   ·rename_i d sx off n z ht hpl hz
    have key : ∀ d : AV, (∀ fs, d ≠ .tuple fs) → tk s (pkOs os a) = some (d, sx) → (if d.wd = n ∧ z.wd = n ∧ AV.wds (zs.take k) = off then flw place sx (zs.set k d) (os ++ [(pkOs os a).owner]) ps else none) = some (ds, s1) →
      ∃ A' S1 Sb, Instr.fill place A ((k, v) :: vs) = some A' ∧ RelX w0 F0 X F S1 s1 tm w ∧ RVs w F ds A'.toList Sb ∧ (∀ b, Sb b → b < w.heap.size) ∧ (∀ b, Sb b → ¬ F b) ∧ (∀ u b, Sb b → ¬ S1 u b) ∧
      (∀ b, Sb b → X b ∨ w0.heap.size ≤ b) ∧ ds.length = zs.length ∧ AV.wds ds = AV.wds zs ∧ (∀ n, (∀ d ∈ zs, d.wd = n) → ∀ d ∈ ds, d.wd = n) := by
     intro d htup ht he
     split at he
     ·rename_i hc
      obtain ⟨hc1, hc2, hc3⟩ := hc
      obtain ⟨S1, g0, g1, g2, Sn, g3, g4, g5, g6, g7, g8, g9, g10⟩ := tk_sv h hap hav ht
      obtain ⟨c1, ck, c2, Sx, Sk, hA, p0, p1, p2, p3, p5, p6⟩ := RVs.pick zs _ _ k z h1 hz
      have hcells := cells_vc g2 htup
      have hvl := RV.length _ _ _ g3
      have hckl := RV.length _ _ _ p5
      have hset := p6 w d (vc v) Sn (fun _ _ => rfl) (fun _ _ => rfl) g3 (fun b h1' h2' => by obtain ⟨u, hu⟩ := g9 b h1'; exact h4 u b (p1 b h2') hu)
      have hfill := fill_one (vc v) 0 off A c1 ck c2 hA (by rw [p0, hc3]; rfl) (by rw [hckl, hvl, hc1, hc2])
      generalize hA' : ((vc v).zipIdx 0).foldl (fun cs (x : Value × Nat) => cs.setIfInBounds (off + x.2) x.1) A = A1 at hfill
      obtain ⟨A', S2, Sb, m1, m2, m3, m4, m5, m6, m7, m8, m9, m10⟩ := flw_good (place := place) ps vs (os ++ [(pkOs os a).owner]) sx S1 (zs.set k d) A1 (fun b => Sx b ∨ Sn b) g0 (by have := Pairs.pk g10 _ _ hps; simpa [pkOs, List.foldl_append, Function.comp_def] using this) (by rw [hfill]; exact hset)
       (by rintro b (hb | hb); exact h2 b (p1 b hb); exact g4 b hb) (by rintro b (hb | hb); exact h3 b (p1 b hb); exact g5 b hb)
       (by rintro u b (hb | hb); exact fun hu => h4 u b (p1 b hb) (g8 u b hu); exact g6 u b hb) (by rintro b (hb | hb); exact h5 b (p1 b hb); exact g7 b hb) ds s1 he
      refine ⟨A', S2, Sb, ?_, m2, m3, m4, m5, m6, m7, by rw [m8]; simp, by rw [m9]; exact wds_set _ _ _ _ hz (by rw [hc1, hc2]), ?_⟩
      ·have hAl : off + n ≤ A.size := by
        have : A.size = A.toList.length := by simp
        rw [this, hA]; simp [p0, hc3, hckl, hc2]
       simp only [Instr.fill, hpl, hcells, List.size_toArray, hvl, hc1]
       have hno : ¬ (n ≠ n ∨ A.size < off + n) := by omega
       have hz' : (vc v).toArray.zipIdx.foldl (fun cs (x : Value × Nat) => cs.setIfInBounds (off + x.2) x.1) A = A1 := by
        rw [← hA', ← Array.foldl_toList]; simp
       simp only [ne_eq, not_true_eq_false, decide_false, Bool.false_or, decide_eq_true_eq, gt_iff_lt]
       rw [if_neg (by simp; omega)]
       rw [show (vc v).toArray.zipIdx.foldl (fun cs x => match x with | (c, j) => cs.setIfInBounds (off + j) c) A = A1 from hz']
       exact m1
      ·intro n' hn'
       refine m10 n' (mem_set_wd hn' ?_)
       rw [hc1, ← hc2]; exact hn' z (List.mem_of_getElem? hz)
     ·cases he
    split at he
    ·cases he
    ·rename_i htup
     exact key _ (fun fs e => htup fs e) ht he
   ·cases he
 | [], _ :: _, _, _, _, _, _, _, _, hp, _, _, _, _, _, _, _, _ => hp.elim
 | _ :: _, [], _, _, _, _, _, _, _, hp, _, _, _, _, _, _, _, _ => hp.elim
def bld (C : Cx) (s : St) (T : TypeId) (ps : List (Nat × AV)) : Option (AV × St) :=
 match (C.T T).k, (C.T T).zero with
 | .struct fs, .agg zs => if (flat (.agg zs)).isSome = true ∧ (∀ f ∈ fs, (C.T f.1).ok = true) then
   (match flw (fun k => (fs[k]?).map fun f => (f.2, (C.T f.1).sz)) s zs [] ps with
   | some (ds, s1) => some (.agg ds, s1)
   | none => none) else none
 | _, _ => none
def bsl (C : Cx) (s : St) (T : TypeId) (n : Nat) (ps : List (Nat × AV)) : Option (AV × St) :=
 match (C.T T).k with
 | .slice e => if (C.T e).ok = true ∧ (C.T e).zero.wd = (C.T e).sz ∧ (flat (C.T e).zero).isSome = true ∧ (C.T e).sz ≠ 0 ∧ n * (C.T e).sz ≤ 16777216 then
   (match flw (fun k => some (k * (C.T e).sz, (C.T e).sz)) s (List.replicate n (C.T e).zero) [] ps with
   | some (ds, s1) => some (.uslice (C.T e).sz ds, s1)
   | none => none) else none
 | _ => none
theorem mapM_places (hC : C.Ok) : ∀ (gs : List Field), (∀ g ∈ gs, (C.T g.type).ok = true) →
  gs.mapM (fun f => (C.P.info? f.type).map fun i => (f.offset, i.size)) = some (gs.map fun g => (g.offset, (C.T g.type).sz)) := by
 intro gs
 induction gs with
 | nil => intro _; simp
 | cons g gs ih =>
   intro hg
   obtain ⟨i, d, z, f1, f2, f3, f4, f5, f6, f7⟩ := hC.info (hg g (by simp))
   have := ih (fun g hg' => hg g (by simp [hg']))
   simp [List.mapM_cons, f1, f2, this]
theorem bld_good (hC : C.Ok) (h : RelX w0 F0 X F S s tm w) {T : TypeId} {ps : List (Nat × AV)} {vs : List (Nat × Value)} (hp : Pairs w F s tm ps vs) (he : bld C s T ps = some (av, s1)) :
  Good C w0 F0 X tm w (Instr.build T vs.toArray) av s1 := by
 unfold bld at he
 split at he
 ·rename_i fs zs hk hz
  split at he
  ·rename_i hc
   obtain ⟨hzf, hfs⟩ := hc
   split at he
   ·rename_i ds s2 hfl
    simp only [Option.some.injEq, Prod.mk.injEq] at he
    obtain ⟨rfl, rfl⟩ := he
    obtain ⟨i, d, z, e1, e2, e3, e4, e5, e6, e7⟩ := hC.info (ok_of_k hk (by simp))
    rw [hk] at e7
    obtain ⟨gs, rfl, hgs⟩ := desc_struct e7
    obtain ⟨zc, hzc⟩ := Option.isSome_iff_exists.1 hzf
    have hzcells := e5 zc (by rw [hz]; exact hzc)
    have hrv : RVs w F zs zc.toArray.toList (fun _ => False) := by
     have := (RV.flat (w := w) (F := F) _).1 (.agg zs) zc (fun _ => False) (Nat.le_refl _) hzc
     rw [RV] at this
     simpa using this
    have hp' : Pairs w F s tm (ps.map fun p => (p.1, pkOs [] p.2)) vs := by simpa [pkOs] using hp
    obtain ⟨A', S1, Sb, m1, m2, m3, m4, m5, m6, m7, m8, m9, m10⟩ := flw_good ps vs [] s S zs zc.toArray (fun _ => False) h hp' hrv (fun _ h => h.elim) (fun _ h => h.elim) (fun _ _ h => h.elim) (fun _ h => h.elim) ds s2 hfl
    have hpl := mapM_places hC gs.toList (fun g hg => hfs (g.type, g.offset) (by rw [← hgs]; exact List.mem_map_of_mem hg))
    have hfun : (fun (k : Nat) => (fs[k]?).map fun (f : TypeId × Nat) => (f.2, (C.T f.1).sz)) = fun (k : Nat) => ((gs.toList.map fun g => (g.offset, (C.T g.type).sz)).toArray)[k]? := by
     funext k
     rw [← hgs]
     simp only [List.getElem?_map, List.getElem?_toArray, Option.map_map]
     rfl
    rw [hfun] at m1
    refine ⟨.agg A', w, F, S1, run_build w T vs.toArray A' ?_, m2, .inr ⟨rfl, ⟨_, rfl⟩, Sb, by simp only [vc, vc1]; rw [RV]; exact m3, m4, m5, m6, m7⟩⟩
    unfold Program.built
    simp only [e1, e6, e4, hpl, hzcells]
    exact m1
   ·cases he
  ·cases he
 ·cases he
theorem bsl_good (hC : C.Ok) (h : RelX w0 F0 X F S s tm w) {T : TypeId} {n : Nat} {ps : List (Nat × AV)} {vs : List (Nat × Value)} (hp : Pairs w F s tm ps vs) (he : bsl C s T n ps = some (av, s1)) :
  Good C w0 F0 X tm w (Instr.buildSlice T n vs.toArray) av s1 := by
 unfold bsl at he
 split at he
 ·rename_i e hk
  split at he
  ·rename_i hc
   obtain ⟨hek, hzw, hzf, hsz, hsmall⟩ := hc
   split at he
   ·rename_i ds s2 hfl
    simp only [Option.some.injEq, Prod.mk.injEq] at he
    obtain ⟨rfl, rfl⟩ := he
    obtain ⟨iT, d, zT, e1, e2, e3, e4, e5, e6, e7⟩ := hC.info (ok_of_k hk (by simp))
    rw [hk] at e7
    have := desc_slice e7; subst this
    obtain ⟨i, de, z, f1, f2, f3, f4, f5, f6, f7⟩ := hC.info hek
    obtain ⟨zc, hzc⟩ := Option.isSome_iff_exists.1 hzf
    have hzcells := f5 zc hzc
    have hrv : ∀ S', RV w F (C.T e).zero zc S' := fun S' => (RV.flat _).1 _ zc S' (Nat.le_refl _) hzc
    have hzl : zc.length = (C.T e).sz := by rw [RV.length _ _ _ (hrv (fun _ => False)), hzw]
    -- the row at first
    generalize hA : ((Array.range (n * (C.T e).sz)).map ((if n * (C.T e).sz = 0 then #[] else zc.toArray)[· % (if n * (C.T e).sz = 0 then (#[] : Array Value) else zc.toArray).size]!)) = A
    have hAl : A.toList = (List.replicate n zc).flatten := by
     rw [← hA]
     by_cases h0 : n * (C.T e).sz = 0
     ·have : n = 0 := by
       rcases Nat.mul_eq_zero.1 h0 with h | h
       ·exact h
       ·exact (hsz h).elim
      subst this
      simp
     ·simp only [h0, if_false]
      have := range_cells zc n
      rw [hzl] at this
      simpa [hzl] using this
    have hp' : Pairs w F s tm (ps.map fun p => (p.1, pkOs [] p.2)) vs := by simpa [pkOs] using hp
    obtain ⟨A', S1, Sb, m1, m2, m3, m4, m5, m6, m7, m8, m9, m10⟩ := flw_good ps vs [] s S (List.replicate n (C.T e).zero) A (fun _ => False) h hp' (by rw [hAl]; exact RVs.replicate hrv n _) (fun _ h => h.elim) (fun _ h => h.elim) (fun _ _ h => h.elim) (fun _ h => h.elim) ds s2 hfl
    have hlen : ds.length = n := by rw [m8]; simp
    have hdw := m10 (C.T e).sz (by intro d hd; rw [List.eq_of_mem_replicate hd]; exact hzw)
    have hA'l : A'.toList.length = n * (C.T e).sz := by rw [RVs.elems_wd m3 hdw, hlen]
    have hA's : A'.size = n * (C.T e).sz := by rw [← hA'l]; simp
    have hn63 : n ≤ 16777216 := by
     have : n * 1 ≤ n * (C.T e).sz := Nat.mul_le_mul_left _ (by omega)
     omega
    have hnew := m2.newS (w' := w.alloc (.cells A' e)) (sz := (C.T e).sz) (cap := n) (xs := ds) (cur := A') (e := e) (fr := (0, 0)) (Sn := Sb) rfl rfl rfl rfl
     (fun o _ ⟨_, h2⟩ => absurd h2 (Nat.not_lt_zero _)) (by omega) (by unfold maxLen; omega) hA's hdw (by rw [hlen, List.take_of_length_le (by omega)]; exact m3) m4 m5 m6 m7
    rw [hlen] at hnew
    refine ⟨_, _, F, S1, ?_, hnew.1, hnew.2⟩
    by_cases h0 : n * (C.T e).sz = 0
    ·simp only [h0, if_true] at hA
     have hA0 : (Array.map (fun _ => (default : Value)) (Array.range 0)) = A := by
      have : n = 0 := by
       rcases Nat.mul_eq_zero.1 h0 with h | h
       ·exact h
       ·exact (hsz h).elim
      apply Array.ext'
      rw [hAl, this]
      simp
     simp [Instr.buildSlice, run_underlying e6, run_sizeOf' f1, f2, h0, newRow]
     rw [hA0, m1]
     simp
    ·simp only [h0, if_false] at hA
     have hno : ¬ (16777216 < n * (C.T e).sz) := by omega
     simp [Instr.buildSlice, run_underlying e6, run_sizeOf' f1, f2, h0, hno, run_zeroValue' f1 f4, hzcells, newRow]
     have hA0 : (Array.map (fun x => zc[x % zc.length]?.getD default) (Array.range (n * (C.T e).sz))) = A := by
      rw [← hA]; simp
     rw [hA0, m1]
     simp
   ·cases he
  ·cases he
 ·cases he
end
inductive SO where
 | mv (x : SX)
 | asg (x : SX)
 | pick (c a b : SX)
 | alc (T : TypeId)
 | bx (T : TypeId) (x : SX)
 | bld (T : TypeId) (ps : List (Nat × SX))
 | bsl (T : TypeId) (n : Nat) (ps : List (Nat × SX))
 | ld (T : TypeId) (x : SX)
 | sto (T : TypeId) (x y : SX)
 | nilc (x : SX)
 | bn (op : BinOp) (T : TypeId) (x y : SX)
 | un (op : UnOp) (x : SX)
 | cvt (A B : TypeId) (x : SX)
 | mkf (f : FuncId) (cs : List SX)
 | mks (T : TypeId) (l c : SX)
 | slc (T : TypeId) (x : SX) (lo hi : Option SX)
 | fa (T : TypeId) (x : SX) (k : Nat)
 | ia (T : TypeId) (x i : SX)
 | idx (T : TypeId) (x i : SX)
 | ex (x : SX) (k : Nat)
 | call (f : SX) (args : List SX)
 | len (T : TypeId) (x : SX)
 | app (T U : TypeId) (x y : SX)
 | shr (so : SO)
 | apz (T U : TypeId) (x y : SX)
 | cap (T : TypeId) (x : SX)
 | mn (mx : Bool) (x y : SX)
 | bad
 | kc (f : SX) (args : List SX) (u x : Nat)
 | ka (f : SX) (args : List SX) (us : List Nat)
 | bxs (T : TypeId) (x : SX)
def SO.base : SO → SO
 | .shr so => so
 | .apz T U x y => .app T U x y
 | .kc f args _ _ => .call f args
 | .ka f args _ => .call f args
 | .bxs T x => .bx T x
 | so => so
def slimXs : List Operand → Option (List SX)
 | [] => some []
 | o :: os => match slimX o, slimXs os with
   | some x, some xs => some (x :: xs)
   | _, _ => none
def slimPs : List (Nat × Operand) → Option (List (Nat × SX))
 | [] => some []
 | (k, o) :: os => match slimX o, slimPs os with
   | some x, some xs => some ((k, x) :: xs)
   | _, _ => none
def slimOpt : Option Operand → Option (Option SX)
 | none => some none
 | some o => (slimX o).map some
def slimO : Op → Option SO
 | .move x => (slimX x).map .mv
 | .assign x => (slimX x).map .asg
 | .pick c a b => match slimX c, slimX a, slimX b with
   | some c, some a, some b => some (.pick c a b)
   | _, _, _ => none
 | .alloc T => some (.alc T)
 | .box T x => (slimX x).map (.bx T)
 | .build T ps => (slimPs ps.toList).map (.bld T)
 | .buildSlice T n ps => (slimPs ps.toList).map (.bsl T n)
 | .load T x => (slimX x).map (.ld T)
 | .store T x y => match slimX x, slimX y with
   | some x, some y => some (.sto T x y)
   | _, _ => none
 | .nilCheck x => (slimX x).map .nilc
 | .binOp op T x y _ => match slimX x, slimX y with
   | some x, some y => some (.bn op T x y)
   | _, _ => none
 | .unOp op _ x => (slimX x).map (.un op)
 | .convert A B x => (slimX x).map (.cvt A B)
 | .makeFunc (.func f) first cs => if first.isEmpty then (slimXs cs.toList).map (.mkf f) else none
 | .makeSlice T l c => match slimX l, slimX c with
   | some l, some c => some (.mks T l c)
   | _, _ => none
 | .slice T x lo hi none => match slimX x, slimOpt lo, slimOpt hi with
   | some x, some lo, some hi => some (.slc T x lo hi)
   | _, _, _ => none
 | .fieldAddr T x k => (slimX x).map fun x => .fa T x k
 | .indexAddr T x i => match slimX x, slimX i with
   | some x, some i => some (.ia T x i)
   | _, _ => none
 | .index T x i => match slimX x, slimX i with
   | some x, some i => some (.idx T x i)
   | _, _ => none
 | .extract x k => (slimX x).map fun x => .ex x k
 | .call c => match c.callee with
   | .value f => match slimX f, slimXs c.args.toList with
     | some f, some xs => some (.call f xs)
     | _, _ => none
   | .builtin .len => match c.args.toList, c.argTypes.toList with
     | [x], [T] => (slimX x).map (.len T)
     | _, _ => none
   | .builtin .cap => match c.args.toList, c.argTypes.toList with
     | [x], [T] => (slimX x).map (.cap T)
     | _, _ => none
   | .builtin .min => match c.args.toList with
     | [x, y] => match slimX x, slimX y with
       | some x, some y => some (.mn false x y)
       | _, _ => none
     | _ => none
   | .builtin .max => match c.args.toList with
     | [x, y] => match slimX x, slimX y with
       | some x, some y => some (.mn true x y)
       | _, _ => none
     | _ => none
   | .builtin .append => match c.args.toList, c.argTypes.toList with
     | [x, y], [T, U] => match slimX x, slimX y with
       | some x, some y => some (.app T U x y)
       | _, _ => none
     | _, _ => none
   | _ => none
 | _ => none
def mn (mx : Bool) : AV → AV → Option AV
 | .str a, .str b => some (.str (mnS mx a b))
 | _, _ => none
def eff (C : Cx) (s : St) : SO → Option (AV × St)
 | .mv x => some (ev s x, s)
 | .asg x => match ev s x with
   | .h y q => tk s (.h y q)
   | d => some (d, s)
 | .pick c a b => match ev s c with
   | .bool b' => some (if b' then ev s a else ev s b, s)
   | _ => none
 | .alc T => (alc C T).map fun d => (d, s)
 | .bx _ x => bx s (ev s x)
 | .bld T ps => bld C s T (ps.map fun p => (p.1, ev s p.2))
 | .bsl T n ps => bsl C s T n (ps.map fun p => (p.1, ev s p.2))
 | .ld T x => (ld C s T (ev s x)).map fun d => (d, s)
 | .sto T x y => (sto C s T (ev s x) (ev s y)).map fun s1 => (.hole, s1)
 | .nilc x => (nilc s (ev s x)).map fun d => (d, s)
 | .bn op T x y => (bn C s op T (ev s x) (ev s y)).map fun d => (d, s)
 | .un op x => (un op (ev s x)).map fun d => (d, s)
 | .cvt A B x => (cvt C s A B (ev s x)).map fun d => (d, s)
 | .mkf f cs => some (.fn f (cs.map (ev s)), s)
 | .mks T l c => (mks C T (ev s l) (ev s c)).map fun d => (d, s)
 | .slc T x lo hi => slc C s T (ev s x) (lo.map (ev s)) (hi.map (ev s))
 | .fa T x k => (fa C s T (ev s x) k).map fun d => (d, s)
 | .ia T x i => (ia C s T (ev s x) (ev s i)).map fun d => (d, s)
 | .idx T x i => (idx C T (ev s x) (ev s i)).map fun d => (d, s)
 | .ex x k => (ex s (ev s x) k).map fun d => (d, s)
 | .call _ _ => none
 | .len T x => (ln C s T (ev s x)).map fun d => (d, s)
 | .app T U x y => apd C s T U (ev s x) (ev s y)
 | .shr _ => none
 | .kc _ _ _ _ => none
 | .ka _ _ _ => none
 | .bxs _ x => bxs s (ev s x)
 | .apz T U x y => (apz C T U (ev s x) (ev s y)).map fun d => (d, s)
 | .cap T x => match (C.T T).k, ev s x with
   | .slice _, .nils => some (.int .i64 0, s)
   | _, _ => none
 | .mn mx x y => (mn mx (ev s x) (ev s y)).map fun d => (d, s)
 | .bad => none
section
variable {C : Cx} {w0 w : World} {F0 X F : Nat → Prop} {S : Nat → Nat → Prop} {s s1 : St} {a : Act} {av : AV}
theorem slimXs_map : ∀ {os : List Operand} {xs : List SX}, slimXs os = some xs → os.map slimX = xs.map some
 | [], xs, h => by simp [slimXs] at h; subst h; rfl
 | o :: os, xs, h => by
   simp only [slimXs] at h
   split at h
   ·rename_i x xs' h1 h2
    simp at h; subst h
    simp [h1, slimXs_map h2]
   ·cases h
theorem pairs_of {tm : Nat → Value} (h : RelX w0 F0 X F S s tm w) (htm : ∀ t, tm t = a.tmps.getD t undef) : ∀ {ps : List (Nat × Operand)} {xs : List (Nat × SX)}, slimPs ps = some xs →
  Pairs w F s tm (xs.map fun p => (p.1, ev s p.2)) (ps.map fun p => (p.1, a.eval p.2))
 | [], xs, h => by simp [slimPs] at h; subst h; trivial
 | (k, o) :: ps, xs, h' => by
   simp only [slimPs] at h'
   split at h'
   ·rename_i x xs' h1 h2
    simp at h'; subst h'
    obtain ⟨g1, g2⟩ := ev_sv h htm h1
    exact ⟨rfl, g1, g2, pairs_of h htm h2⟩
   ·cases h'
def Next (C : Cx) (w0 : World) (F0 X : Nat → Prop) (tm : Nat → Value) (w : World) (m : Sem Go.Next) (av : AV) (s1 : St) : Prop :=
 ∃ r w' v F' S', m.run C.P w = .ok r w' ∧ (r = .value v ∨ r = .skip ∧ v = undef) ∧ RelX w0 F0 X F' S' s1 tm w' ∧ Val w0 X F' S' s1 tm w' av v
theorem Good.next {tm : Nat → Value} {m : Sem Value} (h : Good C w0 F0 X tm w m av s1) : Next C w0 F0 X tm w (do pure (.value (← m))) av s1 := by
 obtain ⟨v, w', F', S', h1, h2, h3⟩ := h
 exact ⟨.value v, w', v, F', S', by simp [h1], .inl rfl, h2, h3⟩
theorem mn_next {tm : Nat → Value} (h : RelX w0 F0 X F S s tm w) {mx : Bool} {x y : AV} {vx vy : Value} {m : Sem Go.Next} (h1 : SV w F s tm x vx (fun _ => False)) (h2 : SV w F s tm y vy (fun _ => False))
  (he : (mn mx x y).map (fun d => (d, s)) = some (av, s1)) (hm : m = (do pure (.value (← if mx then Builtin.max2 vx vy else Builtin.min2 vx vy)))) : Next C w0 F0 X tm w m av s1 := by
 simp only [Option.map_eq_some_iff, Prod.mk.injEq] at he
 obtain ⟨d, hd, rfl, rfl⟩ := he
 unfold mn at hd
 split at hd
 ·rename_i a b
  simp only [Option.some.injEq] at hd; subst hd
  have e1 := sv_str h1
  have e2 := sv_str h2
  subst e1 e2
  subst hm
  refine ⟨.value (.string ⟨⟨mnS mx a b⟩⟩), w, _, F, S, ?_, .inl rfl, h, .inl ⟨rfl, of_str _⟩⟩
  cases mx
  ·simp only [Builtin.min2, Op.stringOp, ba_toList, mnS, Bool.false_eq_true, if_false]
   cases hb : (Op.bytesLess a b || a == b) <;> simp [asBool]
  ·simp only [Builtin.max2, Op.stringOp, ba_toList, mnS, if_true]
   cases hb : Op.bytesLess a b <;> simp [asBool]
 ·cases hd
theorem eff_sound (hC : C.Ok) {tm : Nat → Value} (h : RelX w0 F0 X F S s tm w) (htm : ∀ t, tm t = a.tmps.getD t undef) {o : Oper} {so : SO} (hs : slimO o.op = some so) (he : eff C s so = some (av, s1)) :
  Next C w0 F0 X tm w (execOp a.eval o) av s1 := by
 obtain ⟨dst, op, ty, pos, after, guard⟩ := o
 simp only at hs
 cases op with
 | move x =>
   simp only [slimO, Option.map_eq_some_iff] at hs
   obtain ⟨x', hx, rfl⟩ := hs
   obtain ⟨g1, g2⟩ := ev_sv h htm hx
   simp only [eff, Option.some.injEq, Prod.mk.injEq] at he
   obtain ⟨rfl, rfl⟩ := he
   exact ⟨_, w, _, F, S, rfl, .inl rfl, h, .inl ⟨g1, g2⟩⟩
 | assign x =>
   simp only [slimO, Option.map_eq_some_iff] at hs
   obtain ⟨x', hx, rfl⟩ := hs
   obtain ⟨g1, g2⟩ := ev_sv h htm hx
   simp only [eff] at he
   split at he
   ·rename_i y q hy
    rw [hy] at g1 g2
    obtain ⟨S1, k0, k1, k2, Sn, k3, k4, k5, k6, k7, _⟩ := tk_sv h g1 g2 he
    exact ⟨_, w, _, F, S1, rfl, .inl rfl, k0, .inr ⟨k1, k2, Sn, k3, k4, k5, k6, k7⟩⟩
   ·simp only [Option.some.injEq, Prod.mk.injEq] at he
    obtain ⟨rfl, rfl⟩ := he
    exact ⟨_, w, _, F, S, rfl, .inl rfl, h, .inl ⟨g1, g2⟩⟩
 | pick c x y =>
   simp only [slimO] at hs
   split at hs
   ·rename_i c' x' y' hc hx hy
    simp only [Option.some.injEq] at hs; subst hs
    simp only [eff] at he
    split at he
    ·rename_i b hb
     simp only [Option.some.injEq, Prod.mk.injEq] at he
     obtain ⟨rfl, rfl⟩ := he
     have hcv := (ev_sv h htm hc).2
     rw [hb] at hcv
     have hcv := sv_bool hcv
     obtain ⟨x1, x2⟩ := ev_sv h htm hx
     obtain ⟨y1, y2⟩ := ev_sv h htm hy
     refine ⟨.value (if b then a.eval x else a.eval y), w, _, F, S, ?_, .inl rfl, h, .inl ?_⟩
     ·simp [execOp, hcv, asBool]
     ·cases b
      ·exact ⟨y1, y2⟩
      ·exact ⟨x1, x2⟩
    ·cases he
   ·cases hs
 | alloc T =>
   simp only [slimO, Option.some.injEq] at hs; subst hs
   simp only [eff, Option.map_eq_some_iff, Prod.mk.injEq] at he
   obtain ⟨d, hd, rfl, rfl⟩ := he
   exact (alc_good hC h hd).next
 | box T x =>
   simp only [slimO, Option.map_eq_some_iff] at hs
   obtain ⟨x', hx, rfl⟩ := hs
   obtain ⟨g1, g2⟩ := ev_sv h htm hx
   exact (bx_good h g1 g2 he).next
 | build T ps =>
   simp only [slimO, Option.map_eq_some_iff] at hs
   obtain ⟨ps', hp, rfl⟩ := hs
   obtain ⟨ps⟩ := ps
   have := (bld_good hC h (pairs_of h htm hp) he).next
   simpa [execOp] using this
 | buildSlice T n ps =>
   simp only [slimO, Option.map_eq_some_iff] at hs
   obtain ⟨ps', hp, rfl⟩ := hs
   obtain ⟨ps⟩ := ps
   have := (bsl_good hC h (pairs_of h htm hp) he).next
   simpa [execOp] using this
 | load T x =>
   simp only [slimO, Option.map_eq_some_iff] at hs
   obtain ⟨x', hx, rfl⟩ := hs
   obtain ⟨g1, g2⟩ := ev_sv h htm hx
   simp only [eff, Option.map_eq_some_iff, Prod.mk.injEq] at he
   obtain ⟨d, hd, rfl, rfl⟩ := he
   exact (ld_good hC h g2 hd).next
 | store T x y =>
   simp only [slimO] at hs
   split at hs
   ·rename_i x' y' hx hy
    simp only [Option.some.injEq] at hs; subst hs
    simp only [eff, Option.map_eq_some_iff, Prod.mk.injEq] at he
    obtain ⟨s2, hd, rfl, rfl⟩ := he
    obtain ⟨w', S', h1, h2⟩ := sto_good hC h (ev_sv h htm hx).2 (ev_sv h htm hy).1 (ev_sv h htm hy).2 hd
    exact ⟨.skip, w', undef, F, S', by simp [execOp, h1], .inr ⟨rfl, rfl⟩, h2, .inl ⟨rfl, by rw [SV]; trivial⟩⟩
   ·cases hs
 | nilCheck x =>
   simp only [slimO, Option.map_eq_some_iff] at hs
   obtain ⟨x', hx, rfl⟩ := hs
   obtain ⟨g1, g2⟩ := ev_sv h htm hx
   simp only [eff, Option.map_eq_some_iff, Prod.mk.injEq] at he
   obtain ⟨d, hd, rfl, rfl⟩ := he
   obtain ⟨rfl, hp, hv⟩ := nilc_val h g2 hd
   refine ⟨.value (a.eval x), w, _, F, S, ?_, .inl rfl, h, .inl ⟨hp, g2⟩⟩
   rcases hv with ⟨b, hb⟩ | ⟨f, c, hb⟩ <;> simp [execOp, hb]
 | binOp op T x y yT =>
   simp only [slimO] at hs
   split at hs
   ·rename_i x' y' hx hy
    simp only [Option.some.injEq] at hs; subst hs
    simp only [eff, Option.map_eq_some_iff, Prod.mk.injEq] at he
    obtain ⟨d, hd, rfl, rfl⟩ := he
    exact (bn_good hC h x y (ev_sv h htm hx).2 (ev_sv h htm hy).2 hd).next
   ·cases hs
 | unOp op T x =>
   simp only [slimO, Option.map_eq_some_iff] at hs
   obtain ⟨x', hx, rfl⟩ := hs
   simp only [eff, Option.map_eq_some_iff, Prod.mk.injEq] at he
   obtain ⟨d, hd, rfl, rfl⟩ := he
   exact (un_good h (ev_sv h htm hx).2 hd).next
 | convert A B x =>
   simp only [slimO, Option.map_eq_some_iff] at hs
   obtain ⟨x', hx, rfl⟩ := hs
   simp only [eff, Option.map_eq_some_iff, Prod.mk.injEq] at he
   obtain ⟨d, hd, rfl, rfl⟩ := he
   exact (cvt_good hC h (ev_sv h htm hx).2 hd).next
 | makeFunc fn first cs =>
   cases fn with
   | func f =>
     simp only [slimO] at hs
     split at hs
     ·rename_i hfi
      simp only [Option.map_eq_some_iff] at hs
      obtain ⟨cs', hcs, rfl⟩ := hs
      simp only [eff, Option.some.injEq, Prod.mk.injEq] at he
      obtain ⟨rfl, rfl⟩ := he
      have hf0 : first = #[] := by simpa using hfi
      subst hf0
      refine ⟨_, w, _, F, S, rfl, .inl rfl, h, .inl ⟨rfl, ?_⟩⟩
      rw [SV]
      refine ⟨cs.map a.eval, by simp, ?_⟩
      simpa using svs_map h htm _ _ (slimXs_map hcs)
     ·cases hs
   | _ => simp [slimO] at hs
 | makeSlice T l c =>
   simp only [slimO] at hs
   split at hs
   ·rename_i x' y' hx hy
    simp only [Option.some.injEq] at hs; subst hs
    simp only [eff, Option.map_eq_some_iff, Prod.mk.injEq] at he
    obtain ⟨d, hd, rfl, rfl⟩ := he
    exact (mks_good hC h (ev_sv h htm hx).2 (ev_sv h htm hy).2 hd).next
   ·cases hs
 | slice T x lo hi mx =>
   cases mx with
   | some m => simp [slimO] at hs
   | none =>
     simp only [slimO] at hs
     split at hs
     ·rename_i x' lo' hi' hx hlo hhi
      simp only [Option.some.injEq] at hs; subst hs
      obtain ⟨g1, g2⟩ := ev_sv h htm hx
      have opt : ∀ {o : Option Operand} {o' : Option SX}, slimOpt o = some o' → OptSV w F s tm (o'.map (ev s)) (o.map a.eval) := by
       intro o o' ho
       cases o with
       | none => simp [slimOpt] at ho; subst ho; trivial
       | some o =>
         simp only [slimOpt, Option.map_eq_some_iff] at ho
         obtain ⟨x, hx, rfl⟩ := ho
         exact (ev_sv h htm hx).2
      exact (slc_good hC h g1 g2 (opt hlo) (opt hhi) he).next
     ·cases hs
 | fieldAddr T x k =>
   simp only [slimO, Option.map_eq_some_iff] at hs
   obtain ⟨x', hx, rfl⟩ := hs
   obtain ⟨g1, g2⟩ := ev_sv h htm hx
   simp only [eff, Option.map_eq_some_iff, Prod.mk.injEq] at he
   obtain ⟨d, hd, rfl, rfl⟩ := he
   exact (fa_good hC h g1 g2 hd).next
 | indexAddr T x i =>
   simp only [slimO] at hs
   split at hs
   ·rename_i x' y' hx hy
    simp only [Option.some.injEq] at hs; subst hs
    simp only [eff, Option.map_eq_some_iff, Prod.mk.injEq] at he
    obtain ⟨d, hd, rfl, rfl⟩ := he
    exact (ia_good hC h (ev_sv h htm hx).2 (ev_sv h htm hy).2 hd).next
   ·cases hs
 | index T x i =>
   simp only [slimO] at hs
   split at hs
   ·rename_i x' y' hx hy
    simp only [Option.some.injEq] at hs; subst hs
    simp only [eff, Option.map_eq_some_iff, Prod.mk.injEq] at he
    obtain ⟨d, hd, rfl, rfl⟩ := he
    exact (idx_good hC h (ev_sv h htm hx).2 (ev_sv h htm hy).2 hd).next
   ·cases hs
 | extract x k =>
   simp only [slimO, Option.map_eq_some_iff] at hs
   obtain ⟨x', hx, rfl⟩ := hs
   simp only [eff, Option.map_eq_some_iff, Prod.mk.injEq] at he
   obtain ⟨d, hd, rfl, rfl⟩ := he
   exact (ex_good h (ev_sv h htm hx).2 hd).next
 | call c =>
   obtain ⟨callee, args, argTypes⟩ := c
   simp only [slimO] at hs
   split at hs
   ·split at hs
    ·simp only [Option.some.injEq] at hs; subst hs
     simp [eff] at he
    ·cases hs
   ·split at hs
    ·rename_i x T hargs htys
     simp only [Option.map_eq_some_iff] at hs
     obtain ⟨x', hx, rfl⟩ := hs
     simp only [eff, Option.map_eq_some_iff, Prod.mk.injEq] at he
     obtain ⟨d, hd, rfl, rfl⟩ := he
     have := (ln_good (ty := ty) hC h (ev_sv h htm hx).2 hd).next
     have e1 : args = #[x] := by apply Array.ext'; exact hargs
     have e2 : argTypes = #[T] := by apply Array.ext'; exact htys
     subst e1 e2
     simpa [execOp, resolve, invoke, builtin] using this
    ·cases hs
   ·split at hs
    ·rename_i x T hargs htys
     simp only [Option.map_eq_some_iff] at hs
     obtain ⟨x', hx, rfl⟩ := hs
     simp only [eff] at he
     split at he
     ·rename_i e hk hx0
      simp only [Option.some.injEq, Prod.mk.injEq] at he
      obtain ⟨rfl, rfl⟩ := he
      have hv := (ev_sv h htm hx).2
      rw [hx0] at hv
      have := sv_nils hv
      obtain ⟨i, d, z, e1, e2, e3, e4, e5, e6, e7⟩ := hC.info (ok_of_k hk (by simp))
      rw [hk] at e7
      have hd := desc_slice e7; subst hd
      have e1' : args = #[x] := by apply Array.ext'; exact hargs
      have e2' : argTypes = #[T] := by apply Array.ext'; exact htys
      subst e1' e2'
      have hr : (Builtin.cap_ #[T] ty #[a.eval x]).run C.P w = .ok (.int .i64 0) w := by
       rw [this]; simp [Builtin.cap_, run_underlying e6, goInt]
      have := (Good.same (av := .int .i64 0) h hr rfl (of_int _ _)).next
      simpa [execOp, resolve, invoke, builtin] using this
     ·cases he
    ·cases hs
   ·split at hs
    ·rename_i x y hargs
     split at hs
     ·rename_i x' y' hx hy
      simp only [Option.some.injEq] at hs; subst hs
      have e1 : args = #[x, y] := by apply Array.ext'; exact hargs
      subst e1
      exact mn_next h (ev_sv h htm hx).2 (ev_sv h htm hy).2 he (by simp [execOp, resolve, invoke, builtin, Builtin.min_])
     ·cases hs
    ·cases hs
   ·split at hs
    ·rename_i x y hargs
     split at hs
     ·rename_i x' y' hx hy
      simp only [Option.some.injEq] at hs; subst hs
      have e1 : args = #[x, y] := by apply Array.ext'; exact hargs
      subst e1
      exact mn_next h (ev_sv h htm hx).2 (ev_sv h htm hy).2 he (by simp [execOp, resolve, invoke, builtin, Builtin.max_])
     ·cases hs
    ·cases hs
   ·split at hs
    ·rename_i x y T U hargs htys
     split at hs
     ·rename_i x' y' hx hy
      simp only [Option.some.injEq] at hs; subst hs
      have := (apd_good (ty := ty) hC h (ev_sv h htm hx).2 (ev_sv h htm hy).2 he).next
      have e1 : args = #[x, y] := by apply Array.ext'; exact hargs
      have e2 : argTypes = #[T, U] := by apply Array.ext'; exact htys
      subst e1 e2
      simpa [execOp, resolve, invoke, builtin] using this
     ·cases hs
    ·cases hs
   ·cases hs
 | _ => simp [slimO] at hs
end
mutual
def AV.hs : AV → List Nat
 | .h x _ => [x]
 | .hp x _ => [x]
 | .hb x _ => [x]
 | .fn _ cap => AV.hss cap
 | _ => []
def AV.hss : List AV → List Nat
 | [] => []
 | d :: ds => d.hs ++ AV.hss ds
end
inductive PK where
 | no
 | pk
 | pg
structure Md where
 k : PK
 x : Nat
 d : AV
def PK.app (k : PK) (x : Nat) (a : AV) : AV := match k with
 | .no => a
 | .pk => Fw.pk x a
 | .pg => Fw.pg x a
def Md.at (m : Md) (u : Nat) (a : AV) : AV := if u = m.x then m.d else m.k.app m.x a
def chgAt : List Md → Nat → AV → AV
 | [], _, a => a
 | m :: ms, u, a => chgAt ms u (m.at u a)
def chg (ms : List Md) (s : St) : St := fun u => chgAt ms u (s u)
theorem chgAt_append : ∀ (ms ns : List Md) (u : Nat) (a : AV), chgAt (ms ++ ns) u a = chgAt ns u (chgAt ms u a)
 | [], _, _, _ => rfl
 | m :: ms, ns, u, a => by simp only [List.cons_append, chgAt]; exact chgAt_append ms ns u _
theorem chg_append (ms ns : List Md) (s : St) : chg (ms ++ ns) s = chg ns (chg ms s) := by
 funext u; simp [chg, chgAt_append]
theorem chg_agree {ms : List Md} {s s' : St} {u : Nat} (h : s' u = s u) : chg ms s' u = chg ms s u := by simp [chg, h]
theorem upd_pkS (s : St) (x : Nat) (d : AV) : upd (pkS x s) x d = chg [⟨.pk, x, d⟩] s := by
 funext u; simp only [chg, chgAt, Md.at, upd, pkS, PK.app]
theorem upd_pgS (s : St) (x : Nat) (d : AV) : upd (pgS x s) x d = chg [⟨.pg, x, d⟩] s := by
 funext u; simp only [chg, chgAt, Md.at, upd, pgS, PK.app]
theorem upd_no (s : St) (x : Nat) (d : AV) : upd s x d = chg [⟨.no, x, d⟩] s := by
 funext u; simp only [chg, chgAt, Md.at, upd, PK.app]
mutual
theorem pk_id {x : Nat} : ∀ a : AV, x ∉ a.hs → pk x a = a
 | .h y q, h => by
   simp only [AV.hs, List.mem_singleton] at h
   simp only [pk]; rw [if_neg (fun e => h e.symm)]
 | .hp y q, h => by
   simp only [AV.hs, List.mem_singleton] at h
   simp only [pk]; rw [if_neg (fun e => h e.symm)]
 | .hb y q, h => rfl
 | .fn f cap, h => by simp only [pk]; rw [pks_id cap (by simpa [AV.hs] using h)]
 | .hole, _ => rfl
 | .bool _, _ => rfl
 | .anyb, _ => rfl
 | .int _ _, _ => rfl
 | .str _, _ => rfl
 | .nilp, _ => rfl
 | .nils, _ => rfl
 | .slice _, _ => rfl
 | .uslice _ _, _ => rfl
 | .ref _, _ => rfl
 | .ubox _, _ => rfl
 | .agg _, _ => rfl
 | .tuple _, _ => rfl
theorem pks_id {x : Nat} : ∀ ds : List AV, x ∉ AV.hss ds → pks x ds = ds
 | [], _ => rfl
 | d :: ds, h => by
   simp only [AV.hss, List.mem_append, not_or] at h
   simp only [pks]; rw [pk_id d h.1, pks_id ds h.2]
end
mutual
theorem pg_id {x : Nat} : ∀ a : AV, x ∉ a.hs → pg x a = a
 | .h y q, h => by
   simp only [AV.hs, List.mem_singleton] at h
   simp only [pg]; rw [if_neg (fun e => h e.symm)]
 | .hp y q, h => by
   simp only [AV.hs, List.mem_singleton] at h
   simp only [pg]; rw [if_neg (fun e => h e.symm)]
 | .hb y q, h => by
   simp only [AV.hs, List.mem_singleton] at h
   simp only [pg]; rw [if_neg (fun e => h e.symm)]
 | .fn f cap, h => by simp only [pg]; rw [pgs_id cap (by simpa [AV.hs] using h)]
 | .hole, _ => rfl
 | .bool _, _ => rfl
 | .anyb, _ => rfl
 | .int _ _, _ => rfl
 | .str _, _ => rfl
 | .nilp, _ => rfl
 | .nils, _ => rfl
 | .slice _, _ => rfl
 | .uslice _ _, _ => rfl
 | .ref _, _ => rfl
 | .ubox _, _ => rfl
 | .agg _, _ => rfl
 | .tuple _, _ => rfl
theorem pgs_id {x : Nat} : ∀ ds : List AV, x ∉ AV.hss ds → pgs x ds = ds
 | [], _ => rfl
 | d :: ds, h => by
   simp only [AV.hss, List.mem_append, not_or] at h
   simp only [pgs]; rw [pg_id d h.1, pgs_id ds h.2]
end
theorem app_id {k : PK} {x : Nat} {a : AV} (h : k = .no ∨ x ∉ a.hs) : k.app x a = a := by
 cases k with
 | no => rfl
 | pk => exact pk_id a (by simpa using h)
 | pg => exact pg_id a (by simpa using h)
-- Two purges in either order.
mutual
theorem pk_pk (x y : Nat) : ∀ a : AV, pk x (pk y a) = pk y (pk x a)
 | .h z q => by simp only [pk]; by_cases h1 : z = x <;> by_cases h2 : z = y <;> by_cases h3 : q = [] <;> simp [h1, h2, h3, pk] <;> (subst_vars; simp_all [pk])
 | .hp z q => by simp only [pk]; by_cases h1 : z = x <;> by_cases h2 : z = y <;> simp [h1, h2, pk] <;> (subst_vars; simp_all [pk])
 | .hb z q => rfl
 | .fn f cap => by simp only [pk]; rw [pks_pks x y cap]
 | .hole => rfl
 | .bool _ => rfl
 | .anyb => rfl
 | .int _ _ => rfl
 | .str _ => rfl
 | .nilp => rfl
 | .nils => rfl
 | .slice _ => rfl
 | .uslice _ _ => rfl
 | .ref _ => rfl
 | .ubox _ => rfl
 | .agg _ => rfl
 | .tuple _ => rfl
theorem pks_pks (x y : Nat) : ∀ ds : List AV, pks x (pks y ds) = pks y (pks x ds)
 | [] => rfl
 | d :: ds => by simp only [pks]; rw [pk_pk x y d, pks_pks x y ds]
end
mutual
theorem pg_pg (x y : Nat) : ∀ a : AV, pg x (pg y a) = pg y (pg x a)
 | .h z q => by simp only [pg]; by_cases h1 : z = x <;> by_cases h2 : z = y <;> simp [h1, h2, pg] <;> (subst_vars; simp_all [pg])
 | .hp z q => by simp only [pg]; by_cases h1 : z = x <;> by_cases h2 : z = y <;> simp [h1, h2, pg] <;> (subst_vars; simp_all [pg])
 | .hb z q => by simp only [pg]; by_cases h1 : z = x <;> by_cases h2 : z = y <;> simp [h1, h2, pg] <;> (subst_vars; simp_all [pg])
 | .fn f cap => by simp only [pg]; rw [pgs_pgs x y cap]
 | .hole => rfl
 | .bool _ => rfl
 | .anyb => rfl
 | .int _ _ => rfl
 | .str _ => rfl
 | .nilp => rfl
 | .nils => rfl
 | .slice _ => rfl
 | .uslice _ _ => rfl
 | .ref _ => rfl
 | .ubox _ => rfl
 | .agg _ => rfl
 | .tuple _ => rfl
theorem pgs_pgs (x y : Nat) : ∀ ds : List AV, pgs x (pgs y ds) = pgs y (pgs x ds)
 | [] => rfl
 | d :: ds => by simp only [pgs]; rw [pg_pg x y d, pgs_pgs x y ds]
end
mutual
theorem pk_pg (x y : Nat) : ∀ a : AV, pk x (pg y a) = pg y (pk x a)
 | .h z q => by simp only [pg, pk]; by_cases h1 : z = x <;> by_cases h2 : z = y <;> by_cases h3 : q = [] <;> simp [h1, h2, h3, pg, pk] <;> (subst_vars; simp_all [pg, pk])
 | .hp z q => by simp only [pg, pk]; by_cases h1 : z = x <;> by_cases h2 : z = y <;> simp [h1, h2, pg, pk] <;> (subst_vars; simp_all [pg, pk])
 | .hb z q => by simp only [pg, pk]; by_cases h2 : z = y <;> simp [h2, pk]
 | .fn f cap => by simp only [pg, pk]; rw [pks_pgs x y cap]
 | .hole => rfl
 | .bool _ => rfl
 | .anyb => rfl
 | .int _ _ => rfl
 | .str _ => rfl
 | .nilp => rfl
 | .nils => rfl
 | .slice _ => rfl
 | .uslice _ _ => rfl
 | .ref _ => rfl
 | .ubox _ => rfl
 | .agg _ => rfl
 | .tuple _ => rfl
theorem pks_pgs (x y : Nat) : ∀ ds : List AV, pks x (pgs y ds) = pgs y (pks x ds)
 | [] => rfl
 | d :: ds => by simp only [pgs, pks]; rw [pk_pg x y d, pks_pgs x y ds]
end
theorem app_app (k l : PK) (x y : Nat) (a : AV) : k.app x (l.app y a) = l.app y (k.app x a) := by
 cases k <;> cases l <;> simp only [PK.app] <;> first | rfl | exact pk_pk .. | exact pg_pg .. | exact pk_pg .. | exact (pk_pg ..).symm
def SX.use (s : St) : SX → List Nat
 | .t n => n :: (s n).hs
 | .c av => av.hs
 | .f _ => []
def SX.uses (s : St) : List SX → List Nat
 | [] => []
 | x :: xs => x.use s ++ SX.uses s xs
def optUse (s : St) : Option SX → List Nat
 | none => []
 | some x => x.use s
def use (s : St) : SO → List Nat
 | .mv x => x.use s
 | .asg x => x.use s
 | .pick c a b => c.use s ++ (a.use s ++ b.use s)
 | .alc _ => []
 | .bx _ x => x.use s
 | .bld _ ps => SX.uses s (ps.map (·.2))
 | .bsl _ _ ps => SX.uses s (ps.map (·.2))
 | .ld _ x => x.use s
 | .sto _ x y => x.use s ++ y.use s
 | .nilc x => x.use s
 | .bn _ _ x y => x.use s ++ y.use s
 | .un _ x => x.use s
 | .cvt _ _ x => x.use s
 | .mkf _ cs => SX.uses s cs
 | .mks _ l c => l.use s ++ c.use s
 | .slc _ x lo hi => x.use s ++ (optUse s lo ++ optUse s hi)
 | .fa _ x _ => x.use s
 | .ia _ x i => x.use s ++ i.use s
 | .idx _ x i => x.use s ++ i.use s
 | .ex x _ => x.use s
 | .call f args => f.use s ++ SX.uses s args
 | .len _ x => x.use s
 | .app _ _ x y => x.use s ++ y.use s
 | .shr so => use s so
 | .kc f args u x => u :: x :: (f.use s ++ SX.uses s args)
 | .ka f args us => us.flatMap (fun u => u :: (s u).hs) ++ (f.use s ++ SX.uses s args)
 | .bxs _ x => x.use s
 | .apz _ _ x y => x.use s ++ y.use s
 | .cap _ x => x.use s
 | .mn _ x y => x.use s ++ y.use s
 | .bad => []
def tks (s : St) : SO → List Nat
 | .asg x => (ev s x).hs
 | .bx _ x => (ev s x).hs
 | .bld _ ps => AV.hss (ps.map fun p => ev s p.2)
 | .bsl _ _ ps => AV.hss (ps.map fun p => ev s p.2)
 | .sto _ x y => (ev s x).hs ++ (ev s y).hs
 | .slc _ x _ _ => (ev s x).hs
 | .app _ _ x y => (ev s x).hs ++ (ev s y).hs
 | .shr so => tks s so
 | _ => []
def Agree (U : List Nat) (s' s : St) : Prop := ∀ u ∈ U, s' u = s u
theorem Agree.left {U V : List Nat} {s' s : St} (h : Agree (U ++ V) s' s) : Agree U s' s := fun u hu => h u (List.mem_append_left _ hu)
theorem Agree.right {U V : List Nat} {s' s : St} (h : Agree (U ++ V) s' s) : Agree V s' s := fun u hu => h u (List.mem_append_right _ hu)
theorem Agree.chg {U : List Nat} {s' s : St} (h : Agree U s' s) (ms : List Md) : Agree U (chg ms s') (chg ms s) := fun u hu => chg_agree (h u hu)
theorem Agree.sub {U V : List Nat} {s' s : St} (h : Agree U s' s) (hs : ∀ u ∈ V, u ∈ U) : Agree V s' s := fun u hu => h u (hs u hu)
theorem SX.use_ev {s : St} {x : SX} : ∀ u ∈ (ev s x).hs, u ∈ x.use s := by
 intro u hu
 cases x with
 | t n =>
   simp only [ev, al] at hu
   split at hu
   ·simp [SX.use, hu]
   ·simp only [AV.hs, List.mem_singleton] at hu; simp [SX.use, hu]
 | c av => exact hu
 | f g => simp [ev, AV.hs, AV.hss] at hu
theorem SX.ev_agree {s s' : St} {x : SX} (h : Agree (x.use s) s' s) : ev s' x = ev s x := by
 cases x with
 | t n => simp only [ev]; rw [h n (by simp [SX.use])]
 | c av => rfl
 | f g => rfl
theorem Agree.ev {s s' : St} {x : SX} (h : Agree (x.use s) s' s) : Agree (ev s x).hs s' s := h.sub SX.use_ev
theorem optEv_agree {s s' : St} {x : Option SX} (h : Agree (optUse s x) s' s) : x.map (ev s') = x.map (ev s) := by
 cases x with
 | none => rfl
 | some x => simp only [Option.map_some]; rw [SX.ev_agree h]
theorem SX.evs_agree {s s' : St} : ∀ {xs : List SX}, Agree (SX.uses s xs) s' s → xs.map (ev s') = xs.map (ev s)
 | [], _ => rfl
 | x :: xs, h => by
   simp only [List.map_cons]
   rw [SX.ev_agree (h.left), SX.evs_agree (h.right)]
theorem SX.evp_agree {s s' : St} : ∀ {ps : List (Nat × SX)}, Agree (SX.uses s (ps.map (·.2))) s' s → (ps.map fun p => (p.1, ev s' p.2)) = ps.map fun p => (p.1, ev s p.2)
 | [], _ => rfl
 | x :: xs, h => by
   simp only [List.map_cons] at h ⊢
   rw [SX.ev_agree (h.left), SX.evp_agree (h.right)]
theorem SX.uses_evs {s : St} : ∀ {xs : List SX}, ∀ u ∈ AV.hss (xs.map (ev s)), u ∈ SX.uses s xs
 | [], u, h => by simp [AV.hss] at h
 | x :: xs, u, h => by
   simp only [List.map_cons, AV.hss, List.mem_append] at h
   simp only [SX.uses, List.mem_append]
   exact h.imp (SX.use_ev u) (SX.uses_evs u)
section
variable {C : Cx} {s s' : St} {x y i : AV} {T A B : TypeId}
theorem loc_agree (h : Agree x.hs s' s) : loc s' x = loc s x := by
 cases x <;> first
  | rfl
  | (simp only [loc]; rw [h _ (by simp [AV.hs])])
theorem loc_hs {z : Nat} {q : List Nat} (h : loc s x = some (z, q)) : z ∈ x.hs := by
 cases x with
 | h y p =>
   simp only [loc] at h
   split at h
   ·simp only [Option.some.injEq, Prod.mk.injEq] at h; simp [AV.hs, h.1]
   ·cases h
 | hp y p =>
   simp only [loc] at h
   split at h
   ·simp only [Option.some.injEq, Prod.mk.injEq] at h; simp [AV.hs, h.1]
   ·cases h
 | _ => simp [loc] at h
theorem ld_agree (h : Agree x.hs s' s) : ld C s' T x = ld C s T x := by
 have hl := loc_agree h
 unfold ld
 split
 ·rfl
 ·rw [h _ (by simp [AV.hs])]
 ·rw [hl]
  split
  ·rename_i e
   rw [h _ (loc_hs e)]
  ·rfl
theorem fa_agree {k : Nat} (h : Agree x.hs s' s) : fa C s' T x k = fa C s T x k := by
 have hl := loc_agree h
 unfold fa
 split
 ·split
  ·split
   ·split
    ·rfl
    ·rw [h _ (by simp [AV.hs])]
    ·rw [hl]
     split
     ·rename_i e
      rw [h _ (loc_hs e)]
     ·rfl
   ·rfl
  ·rfl
 ·rfl
theorem ia_agree (h : Agree x.hs s' s) : ia C s' T x i = ia C s T x i := by
 cases x <;> first
  | rfl
  | (simp only [ia]; rw [h _ (by simp [AV.hs])])
theorem ln_agree (h : Agree x.hs s' s) : ln C s' T x = ln C s T x := by
 unfold ln
 cases (C.T T).k <;> cases x <;> first
  | rfl
  | (simp only; rw [h _ (by simp [AV.hs])])
theorem cvt_agree (h : Agree x.hs s' s) : cvt C s' A B x = cvt C s A B x := by
 unfold cvt
 cases (C.T B).k <;> cases x <;> first
  | rfl
  | (simp only; rw [h _ (by simp [AV.hs])])
theorem nilS_agree (h : Agree x.hs s' s) : nilS s' x = nilS s x := by
 cases x <;> first
  | rfl
  | (simp only [nilS]; rw [h _ (by simp [AV.hs])])
theorem nilP_agree (h : Agree x.hs s' s) : nilP s' x = nilP s x := by
 cases x <;> first
  | rfl
  | (simp only [nilP]; rw [h _ (by simp [AV.hs])])
theorem bn_agree {op : BinOp} (h : Agree x.hs s' s) : bn C s' op T x y = bn C s op T x y := by
 have h1 := nilS_agree h
 have h2 := nilP_agree h
 unfold bn
 split <;> first | rfl | simp only [h1, h2]
theorem nilc_agree (h : Agree x.hs s' s) : nilc s' x = nilc s x := by
 cases x <;> first
  | rfl
  | (simp only [nilc]; rw [h _ (by simp [AV.hs])])
theorem ex_agree {k : Nat} (h : Agree x.hs s' s) : ex s' x k = ex s x k := by
 cases x <;> first
  | rfl
  | (simp only [ex]; rw [h _ (by simp [AV.hs])])
theorem put_hs : ∀ (q : List Nat) (a d e : AV), AV.sub q a = some d → (d.plain = false ∨ q ≠ []) → (q = [] → e.hs = []) → (AV.put q e a).hs = [] := by
 intro q a d e h hp he
 cases q with
 | nil => rw [AV.put]; exact he rfl
 | cons k q =>
   cases a <;> first
    | (simp [AV.sub] at h; done)
    | skip
   all_goals
    unfold AV.put
    repeat' split
    all_goals first | rfl | (simp_all; done)
end
def Loc {α : Type} (U Tk : List Nat) (f : St → Option (α × St)) (s : St) (av : α) (s1 : St) : Prop :=
 ∃ ms, s1 = chg ms s ∧ (∀ m ∈ ms, m.x ∈ Tk ∧ m.d.hs = []) ∧ ∀ s', Agree U s' s → f s' = some (av, chg ms s')
theorem Loc.pure {α : Type} {U Tk : List Nat} {f : St → Option (α × St)} {s : St} {av : α} (h : ∀ s', Agree U s' s → f s' = some (av, s')) : Loc U Tk f s av s :=
 ⟨[], rfl, by simp, fun s' hs => h s' hs⟩
theorem Loc.mono {α : Type} {U Tk U' Tk' : List Nat} {f : St → Option (α × St)} {s s1 : St} {av : α} (h : Loc U Tk f s av s1) (hU : ∀ u ∈ U, u ∈ U') (hT : ∀ u ∈ Tk, u ∈ Tk') : Loc U' Tk' f s av s1 := by
 obtain ⟨ms, h1, h2, h3⟩ := h
 exact ⟨ms, h1, fun m hm => ⟨hT _ (h2 m hm).1, (h2 m hm).2⟩, fun s' hs => h3 s' (hs.sub hU)⟩
section
variable {C : Cx} {s s1 : St} {x y d : AV} {T A B : TypeId}
theorem tk_local (h : tk s x = some (d, s1)) : Loc x.hs x.hs (fun s => tk s x) s d s1 := by
 cases x with
 | h y q =>
   simp only [tk] at h
   split at h
   ·rename_i e he
    split at h
    ·cases h
    ·rename_i hp
     simp only [Option.some.injEq, Prod.mk.injEq] at h
     obtain ⟨rfl, rfl⟩ := h
     have hp : e.plain = false := by simpa using hp
     refine ⟨[⟨.pk, y, AV.put q e.hollow (s y)⟩], upd_pkS _ _ _, ?_, ?_⟩
     ·intro m hm
      simp only [List.mem_singleton] at hm; subst hm
      refine ⟨by simp [AV.hs], put_hs q _ _ _ he (.inl hp) fun hq => ?_⟩
      subst hq
      cases e <;> first | (simp [AV.plain] at hp; done) | rfl
     ·intro s' hs
      have e1 : s' y = s y := hs y (by simp [AV.hs])
      simp only [tk, e1, he, hp]
      rw [← upd_pkS]; rfl
   ·cases h
 | hp y q => simp [tk] at h
 | hb y q => simp [tk] at h
 | fn f c => simp [tk] at h
 | hole => simp [tk] at h
 | _ =>
   simp only [tk, Option.some.injEq, Prod.mk.injEq] at h
   obtain ⟨rfl, rfl⟩ := h
   exact .pure fun s' _ => rfl
mutual
theorem pk_hs (x : Nat) : ∀ a : AV, ∀ u ∈ (pk x a).hs, u ∈ a.hs
 | .h y q, u, h => by
   simp only [pk] at h
   split at h
   ·split at h
    ·exact h
    ·simp [AV.hs] at h
   ·exact h
 | .hp y q, u, h => by
   simp only [pk] at h
   split at h
   ·simp [AV.hs] at h
   ·exact h
 | .hb y q, u, h => h
 | .fn f cap, u, h => by simp only [pk, AV.hs] at h ⊢; exact pks_hs x cap u h
 | .hole, u, h => h
 | .bool _, u, h => h
 | .anyb, u, h => h
 | .int _ _, u, h => h
 | .str _, u, h => h
 | .nilp, u, h => h
 | .nils, u, h => h
 | .slice _, u, h => h
 | .uslice _ _, u, h => h
 | .ref _, u, h => h
 | .ubox _, u, h => h
 | .agg _, u, h => h
 | .tuple _, u, h => h
theorem pks_hs (x : Nat) : ∀ ds : List AV, ∀ u ∈ AV.hss (pks x ds), u ∈ AV.hss ds
 | [], u, h => h
 | d :: ds, u, h => by
   simp only [pks, AV.hss, List.mem_append] at h ⊢
   exact h.imp (pk_hs x d u) (pks_hs x ds u)
end
theorem pkO_hs (o : Option Nat) (a : AV) : ∀ u ∈ (pkO o a).hs, u ∈ a.hs := by
 intro u h
 cases o with
 | none => exact h
 | some x => exact pk_hs x a u h
theorem pkOs_hs : ∀ (os : List (Option Nat)) (a : AV), ∀ u ∈ (pkOs os a).hs, u ∈ a.hs := by
 intro os
 induction os with
 | nil => intro a u h; exact h
 | cons o os ih => intro a u h; exact pkO_hs o a u (ih (pkO o a) u h)
theorem flw_local {place : Nat → Option (Nat × Nat)} : ∀ {ps : List (Nat × AV)} {s s1 : St} {zs ds : List AV} {os : List (Option Nat)}, flw place s zs os ps = some (ds, s1) →
  Loc (AV.hss (ps.map (·.2))) (AV.hss (ps.map (·.2))) (fun s => flw place s zs os ps) s ds s1 := by
 intro ps
 induction ps with
 | nil =>
   intro s s1 zs ds os h
   simp only [flw, Option.some.injEq, Prod.mk.injEq] at h
   obtain ⟨rfl, rfl⟩ := h
   exact .pure fun s' _ => rfl
 | cons p ps ih =>
   intro s s1 zs ds os h
   obtain ⟨k, a⟩ := p
   simp only [flw] at h
   split at h
   ·rename_i d s2 off n z ht hpl hz
    split at h
    ·cases h
    ·rename_i d' hnt
     split at h
     ·rename_i hc
      obtain ⟨ms1, rfl, h2, h3⟩ := tk_local ht
      obtain ⟨ms2, rfl, h5, h6⟩ := ih h
      refine ⟨ms1 ++ ms2, (chg_append _ _ _).symm, ?_, ?_⟩
      ·intro m hm
       simp only [List.map_cons, AV.hss, List.mem_append] at hm ⊢
       rcases hm with hm | hm
       ·exact ⟨.inl (pkOs_hs _ _ _ (h2 m hm).1), (h2 m hm).2⟩
       ·exact ⟨.inr (h5 m hm).1, (h5 m hm).2⟩
      ·intro s' hs
       simp only [List.map_cons, AV.hss] at hs
       have e1 := h3 s' (hs.left.sub (pkOs_hs _ _))
       have e2 := h6 (chg ms1 s') (hs.right.chg ms1)
       simp only at e1 e2
       simp only [flw, e1, hpl, hz, chg_append]
       rw [if_pos hc]; exact e2
     ·cases h
   ·cases h
theorem bld_local {ps : List (Nat × AV)} {av : AV} (h : bld C s T ps = some (av, s1)) : Loc (AV.hss (ps.map (·.2))) (AV.hss (ps.map (·.2))) (fun s => bld C s T ps) s av s1 := by
 unfold bld at h
 split at h
 ·rename_i fs zs hk hz
  split at h
  ·rename_i hc
   split at h
   ·rename_i ds s2 hf
    simp only [Option.some.injEq, Prod.mk.injEq] at h
    obtain ⟨rfl, rfl⟩ := h
    obtain ⟨ms, h1, h2, h3⟩ := flw_local hf
    refine ⟨ms, h1, h2, fun s' hs => ?_⟩
    have := h3 s' hs
    simp only at this
    simp only [bld, hk, hz, if_pos hc, this]
   ·cases h
  ·cases h
 ·cases h
theorem bsl_local {n : Nat} {ps : List (Nat × AV)} {av : AV} (h : bsl C s T n ps = some (av, s1)) : Loc (AV.hss (ps.map (·.2))) (AV.hss (ps.map (·.2))) (fun s => bsl C s T n ps) s av s1 := by
 unfold bsl at h
 split at h
 ·rename_i e hk
  split at h
  ·rename_i hc
   split at h
   ·rename_i ds s2 hf
    simp only [Option.some.injEq, Prod.mk.injEq] at h
    obtain ⟨rfl, rfl⟩ := h
    obtain ⟨ms, h1, h2, h3⟩ := flw_local hf
    refine ⟨ms, h1, h2, fun s' hs => ?_⟩
    have := h3 s' hs
    simp only at this
    simp only [bsl, hk, if_pos hc, this]
   ·cases h
  ·cases h
 ·cases h
theorem bx_local {av : AV} (h : bx s x = some (av, s1)) : Loc x.hs x.hs (fun s => bx s x) s av s1 := by
 unfold bx at h
 split at h
 ·cases h
 ·rename_i d s2 hnt ht
  simp only [Option.some.injEq, Prod.mk.injEq] at h
  obtain ⟨rfl, rfl⟩ := h
  obtain ⟨ms, h1, h2, h3⟩ := tk_local ht
  refine ⟨ms, h1, h2, fun s' hs => ?_⟩
  have := h3 s' hs
  simp only at this
  simp only [bx, this]
 ·cases h
theorem bxs_local {av : AV} (h : bxs s x = some (av, s1)) : Loc x.hs [] (fun s => bxs s x) s av s1 := by
 unfold bxs at h
 split at h
 ·rename_i y q
  split at h
  ·rename_i ds hsy
   split at h
   ·cases h
   ·rename_i hnp
    simp only [Option.some.injEq, Prod.mk.injEq] at h
    obtain ⟨rfl, rfl⟩ := h
    refine .pure fun s' hs => ?_
    have e : s' y = s y := hs y (by simp [AV.hs])
    simp only [bxs, e, hsy, if_neg hnp]
  ·cases h
 ·cases h
theorem sto_local {s2 : St} (h : sto C s T x y = some s2) : Loc (x.hs ++ y.hs) (x.hs ++ y.hs) (fun s => (sto C s T x y).map fun s1 => (AV.hole, s1)) s .hole s2 := by
 unfold sto at h
 split at h
 ·rename_i d s1 z q ht hl
  obtain ⟨ms, h1, h2, h3⟩ := tk_local ht
  have hz := loc_hs hl
  have hq : q ≠ [] := by
   cases x with
   | h y p =>
     simp only [loc] at hl
     split at hl
     ·simp only [Option.some.injEq, Prod.mk.injEq] at hl; simp [← hl.2]
     ·cases hl
   | hp y p =>
     simp only [loc] at hl
     split at hl
     ·rename_i hcr
      simp only [Option.some.injEq, Prod.mk.injEq] at hl
      obtain ⟨rfl, rfl⟩ := hl
      intro e; subst e; simp [AV.cross] at hcr
     ·cases hl
   | _ => simp [loc] at hl
  split at h
  ·cases h
  ·rename_i d' hnt
   split at h
   ·rename_i d0 hd0
    split at h
    ·rename_i hc
     simp only [Option.some.injEq] at h; subst h
     refine ⟨ms ++ [⟨.pk, z, AV.put q d (s z)⟩], ?_, ?_, ?_⟩
     ·rw [chg_append, ← h1, upd_pkS]
     ·intro m hm
      simp only [List.mem_append, List.mem_singleton] at hm ⊢
      rcases hm with hm | rfl
      ·exact ⟨.inr (h2 m hm).1, (h2 m hm).2⟩
      ·exact ⟨.inl hz, put_hs q _ _ _ hd0 (.inr hq) fun e => (hq e).elim⟩
     ·intro s' hs
      have e1 := h3 s' hs.right
      simp only at e1
      simp only [sto, e1, loc_agree hs.left, hl, hs.left z hz, hd0]
      cases d <;> first | (simp only [if_pos hc, Option.map_some, chg_append, upd_pkS]; done) | exact (hnt _ rfl).elim
    ·cases h
   ·cases h
 ·cases h
theorem slc_local {lo hi : Option AV} {av : AV} (h : slc C s T x lo hi = some (av, s1)) : Loc x.hs x.hs (fun s => slc C s T x lo hi) s av s1 := by
 cases x with
 | h y q =>
   unfold slc at h
   split at h <;> first | (cases h; done) | skip
   all_goals (rename_i hx; try cases hx)
   rename_i e hk
   split at h
   ·rename_i sz xs hsub
    split at h
    ·rename_i b hlo hhi
     split at h
     ·rename_i hc
      split at h
      ·rename_i d s2 ht
       simp only [Option.some.injEq, Prod.mk.injEq] at h
       obtain ⟨rfl, rfl⟩ := h
       obtain ⟨ms, h1, h2, h3⟩ := tk_local ht
       refine ⟨ms, h1, h2, fun s' hs => ?_⟩
       have := h3 s' hs
       simp only at this
       have e1 : s' y = s y := hs y (by simp [AV.hs])
       simp only [slc, hk, e1, hsub, hlo, hhi, if_pos hc, this]
      ·cases h
     ·cases h
    ·cases h
   ·cases h
 | _ =>
   have hs1 : s1 = s := by
    unfold slc at h
    repeat' split at h
    all_goals first | (cases h; done) | (simp only [Option.some.injEq, Prod.mk.injEq] at h; exact h.2.symm) | simp_all
   subst hs1
   refine .pure fun s' _ => ?_
   unfold slc at h ⊢
   repeat' split at h
   all_goals first
    | (cases h; done)
    | (simp only [Option.some.injEq, Prod.mk.injEq] at h
       obtain ⟨rfl, _⟩ := h
       simp_all)
def apx (C : Cx) (e : TypeId) (s : St) : AV → Option (AV × St)
 | .nils => some (AV.uslice (C.T e).sz [], s)
 | .h a q => tk s (.h a q)
 | _ => none
def apy (s1 : St) : AV → Option (List AV × St)
 | .nils => some ([], s1)
 | .slice ys => some (ys, s1)
 | .str l => some (l.map byteAV, s1)
 | .h a q => match tk s1 (.h a q) with
   | some (.uslice _ ys, s2) => some (ys, s2)
   | _ => none
 | _ => none
theorem apd_eq (C : Cx) (s : St) (T U : TypeId) (x y : AV) : apd C s T U x y = (match (C.T T).k with
 | .slice e => if (C.T e).ok = true ∧ (C.T e).zero.wd = (C.T e).sz ∧ (flat (C.T e).zero).isSome = true ∧ appOk C e U = true then
   match apx C e s x with
   | some (.uslice sz xs, s1) => if sz = (C.T e).sz then
     match apy s1 (pkO x.owner y) with
     | some (ys, s2) => if (∀ d ∈ ys, d.wd = (C.T e).sz) ∧ (xs.length + ys.length) * (C.T e).bytes ≤ 140737488355328 ∧ xs.length + ys.length ≤ 9223372036854775807 then some (.uslice sz (xs ++ ys), s2) else none
     | none => none
     else none
   | _ => none
   else none
 | _ => none) := by
 unfold apd
 generalize pkO x.owner y = y'
 cases (C.T T).k <;> first
  | rfl
  | (cases x <;> cases y' <;> rfl)
theorem apx_local {e : TypeId} {d : AV} (h1 : apx C e s x = some (d, s1)) : Loc x.hs x.hs (fun s => apx C e s x) s d s1 := by
 cases x with
 | nils =>
   simp only [apx, Option.some.injEq, Prod.mk.injEq] at h1
   obtain ⟨h1, rfl⟩ := h1
   exact .pure fun s' _ => by simp only [apx, h1]
 | h a q => exact tk_local h1
 | _ => simp [apx] at h1
theorem apy_local {ys : List AV} (h2 : apy s y = some (ys, s1)) : Loc y.hs y.hs (fun s => apy s y) s ys s1 := by
 cases y with
 | nils =>
   simp only [apy, Option.some.injEq, Prod.mk.injEq] at h2
   obtain ⟨rfl, rfl⟩ := h2
   exact .pure fun s' _ => rfl
 | slice ys =>
   simp only [apy, Option.some.injEq, Prod.mk.injEq] at h2
   obtain ⟨rfl, rfl⟩ := h2
   exact .pure fun s' _ => rfl
 | str l =>
   simp only [apy, Option.some.injEq, Prod.mk.injEq] at h2
   obtain ⟨rfl, rfl⟩ := h2
   exact .pure fun s' _ => rfl
 | h a q =>
   simp only [apy] at h2
   split at h2
   ·rename_i sz' ys' s4 ht
    simp only [Option.some.injEq, Prod.mk.injEq] at h2
    obtain ⟨rfl, rfl⟩ := h2
    obtain ⟨ms, g1, g2, g3⟩ := tk_local ht
    refine ⟨ms, g1, g2, fun s' hs => ?_⟩
    have := g3 s' hs
    simp only at this
    simp only [apy, this]
   ·cases h2
 | _ => simp [apy] at h2
theorem apd_local {av : AV} (h : apd C s T A x y = some (av, s1)) : Loc (x.hs ++ y.hs) (x.hs ++ y.hs) (fun s => apd C s T A x y) s av s1 := by
 rw [apd_eq] at h
 split at h
 ·rename_i e hk
  split at h
  ·rename_i hc
   split at h
   ·rename_i sz xs s2 h1
    split at h
    ·rename_i hsz
     split at h
     ·rename_i ys s3 h2
      split at h
      ·rename_i hc2
       simp only [Option.some.injEq, Prod.mk.injEq] at h
       obtain ⟨rfl, rfl⟩ := h
       obtain ⟨ms1, rfl, a2, a3⟩ := apx_local h1
       obtain ⟨ms2, rfl, b2, b3⟩ := (apy_local h2).mono (pkO_hs _ _) (pkO_hs _ _)
       refine ⟨ms1 ++ ms2, (chg_append _ _ _).symm, ?_, ?_⟩
       ·intro m hm
        simp only [List.mem_append] at hm ⊢
        rcases hm with hm | hm
        ·exact ⟨.inl (a2 m hm).1, (a2 m hm).2⟩
        ·exact ⟨.inr (b2 m hm).1, (b2 m hm).2⟩
       ·intro s' hs
        have e1 := a3 s' hs.left
        have e2 := b3 (chg ms1 s') (hs.right.chg ms1)
        simp only at e1 e2
        simp only [apd_eq, hk, if_pos hc, e1, if_pos hsz, e2, if_pos hc2, chg_append]
      ·cases h
     ·cases h
    ·cases h
   ·cases h
  ·cases h
 ·cases h
theorem eff_local {so : SO} {av : AV} (h : eff C s so = some (av, s1)) : Loc (use s so) (tks s so) (fun s => eff C s so) s av s1 := by
 cases so with
 | shr so => simp [eff] at h
 | kc f args u x => simp [eff] at h
 | ka f args L => simp [eff] at h
 | bxs T x =>
   obtain ⟨ms, h1, h2, h3⟩ := bxs_local h
   refine ⟨ms, h1, h2, fun s' hs => ?_⟩
   simp only [eff, SX.ev_agree (x := x) hs]
   exact h3 s' (Agree.ev hs)
 | apz T U x y =>
   simp only [eff, Option.map_eq_some_iff, Prod.mk.injEq] at h
   obtain ⟨d, hd, rfl, rfl⟩ := h
   exact .pure fun s' hs => by
    simp only [use] at hs
    simp only [eff, SX.ev_agree (x := x) hs.left, SX.ev_agree (x := y) hs.right, hd, Option.map_some]
 | bad => simp [eff] at h
 | mn mx x y =>
   simp only [eff, Option.map_eq_some_iff, Prod.mk.injEq] at h
   obtain ⟨d, hd, rfl, rfl⟩ := h
   exact .pure fun s' hs => by
    simp only [use] at hs
    simp only [eff, SX.ev_agree (x := x) hs.left, SX.ev_agree (x := y) hs.right, hd, Option.map_some]
 | cap T x =>
   simp only [eff] at h
   split at h
   ·rename_i e hk hx
    simp only [Option.some.injEq, Prod.mk.injEq] at h
    obtain ⟨rfl, rfl⟩ := h
    exact .pure fun s' hs => by simp only [eff, SX.ev_agree (x := x) hs, hk, hx]
   ·cases h
 | mv x =>
   simp only [eff, Option.some.injEq, Prod.mk.injEq] at h
   obtain ⟨rfl, rfl⟩ := h
   exact .pure fun s' hs => by simp only [eff, SX.ev_agree (x := x) hs]
 | asg x =>
   simp only [eff] at h
   split at h
   ·rename_i y q hx
    obtain ⟨ms, h1, h2, h3⟩ := tk_local h
    refine ⟨ms, h1, by simpa only [tks, hx] using h2, fun s' hs => ?_⟩
    have e := SX.ev_agree (x := x) hs
    have e2 := h3 s' (by rw [← hx]; exact Agree.ev hs)
    simp only [eff, e, hx]
    exact e2
   ·rename_i hnh
    simp only [Option.some.injEq, Prod.mk.injEq] at h
    obtain ⟨rfl, rfl⟩ := h
    refine .pure fun s' hs => ?_
    have e := SX.ev_agree (x := x) hs
    simp only [eff, e]
 | pick c a b =>
   simp only [eff] at h
   split at h
   ·rename_i b' hb
    simp only [Option.some.injEq, Prod.mk.injEq] at h
    obtain ⟨rfl, rfl⟩ := h
    refine .pure fun s' hs => ?_
    simp only [use] at hs
    simp only [eff, SX.ev_agree (x := c) hs.left, SX.ev_agree (x := a) hs.right.left, SX.ev_agree (x := b) hs.right.right, hb]
   ·cases h
 | alc T =>
   simp only [eff, Option.map_eq_some_iff, Prod.mk.injEq] at h
   obtain ⟨d, hd, rfl, rfl⟩ := h
   exact .pure fun s' hs => by simp only [eff, hd, Option.map_some]
 | bx T x =>
   obtain ⟨ms, h1, h2, h3⟩ := bx_local h
   refine ⟨ms, h1, h2, fun s' hs => ?_⟩
   simp only [eff, SX.ev_agree (x := x) hs]
   exact h3 s' (Agree.ev hs)
 | bld T ps =>
   obtain ⟨ms, h1, h2, h3⟩ := bld_local h
   simp only [List.map_map, Function.comp_def] at h2 h3
   refine ⟨ms, h1, h2, fun s' hs => ?_⟩
   simp only [eff, SX.evp_agree (ps := ps) hs]
   refine h3 s' (hs.sub fun u hu => ?_)
   simp only [use]
   exact SX.uses_evs u (by simpa [List.map_map, Function.comp_def] using hu)
 | bsl T n ps =>
   obtain ⟨ms, h1, h2, h3⟩ := bsl_local h
   simp only [List.map_map, Function.comp_def] at h2 h3
   refine ⟨ms, h1, h2, fun s' hs => ?_⟩
   simp only [eff, SX.evp_agree (ps := ps) hs]
   refine h3 s' (hs.sub fun u hu => ?_)
   simp only [use]
   exact SX.uses_evs u (by simpa [List.map_map, Function.comp_def] using hu)
 | ld T x =>
   simp only [eff, Option.map_eq_some_iff, Prod.mk.injEq] at h
   obtain ⟨d, hd, rfl, rfl⟩ := h
   exact .pure fun s' hs => by simp only [eff, SX.ev_agree (x := x) hs, ld_agree (Agree.ev hs), hd, Option.map_some]
 | sto T x y =>
   simp only [eff, Option.map_eq_some_iff, Prod.mk.injEq] at h
   obtain ⟨s2, hd, rfl, rfl⟩ := h
   obtain ⟨ms, h1, h2, h3⟩ := sto_local hd
   refine ⟨ms, h1, h2, fun s' hs => ?_⟩
   simp only [use] at hs
   simp only [eff, SX.ev_agree (x := x) hs.left, SX.ev_agree (x := y) hs.right]
   exact h3 s' (hs.sub fun u hu => by simp only [List.mem_append] at hu ⊢; exact hu.imp (SX.use_ev u) (SX.use_ev u))
 | nilc x =>
   simp only [eff, Option.map_eq_some_iff, Prod.mk.injEq] at h
   obtain ⟨d, hd, rfl, rfl⟩ := h
   exact .pure fun s' hs => by simp only [eff, SX.ev_agree (x := x) hs, nilc_agree (Agree.ev hs), hd, Option.map_some]
 | bn op T x y =>
   simp only [eff, Option.map_eq_some_iff, Prod.mk.injEq] at h
   obtain ⟨d, hd, rfl, rfl⟩ := h
   refine .pure fun s' hs => ?_
   simp only [use] at hs
   simp only [eff, SX.ev_agree (x := x) hs.left, SX.ev_agree (x := y) hs.right, bn_agree (Agree.ev hs.left), hd, Option.map_some]
 | un op x =>
   simp only [eff, Option.map_eq_some_iff, Prod.mk.injEq] at h
   obtain ⟨d, hd, rfl, rfl⟩ := h
   exact .pure fun s' hs => by simp only [eff, SX.ev_agree (x := x) hs, hd, Option.map_some]
 | cvt A B x =>
   simp only [eff, Option.map_eq_some_iff, Prod.mk.injEq] at h
   obtain ⟨d, hd, rfl, rfl⟩ := h
   exact .pure fun s' hs => by simp only [eff, SX.ev_agree (x := x) hs, cvt_agree (Agree.ev hs), hd, Option.map_some]
 | mkf f cs =>
   simp only [eff, Option.some.injEq, Prod.mk.injEq] at h
   obtain ⟨rfl, rfl⟩ := h
   exact .pure fun s' hs => by simp only [eff, SX.evs_agree (xs := cs) hs]
 | mks T l c =>
   simp only [eff, Option.map_eq_some_iff, Prod.mk.injEq] at h
   obtain ⟨d, hd, rfl, rfl⟩ := h
   refine .pure fun s' hs => ?_
   simp only [use] at hs
   simp only [eff, SX.ev_agree (x := l) hs.left, SX.ev_agree (x := c) hs.right, hd, Option.map_some]
 | slc T x lo hi =>
   simp only [eff] at h
   obtain ⟨ms, h1, h2, h3⟩ := slc_local h
   refine ⟨ms, h1, h2, fun s' hs => ?_⟩
   simp only [use] at hs
   simp only [eff, SX.ev_agree (x := x) hs.left, optEv_agree hs.right.left, optEv_agree hs.right.right]
   exact h3 s' (Agree.ev hs.left)
 | fa T x k =>
   simp only [eff, Option.map_eq_some_iff, Prod.mk.injEq] at h
   obtain ⟨d, hd, rfl, rfl⟩ := h
   exact .pure fun s' hs => by simp only [eff, SX.ev_agree (x := x) hs, fa_agree (Agree.ev hs), hd, Option.map_some]
 | ia T x i =>
   simp only [eff, Option.map_eq_some_iff, Prod.mk.injEq] at h
   obtain ⟨d, hd, rfl, rfl⟩ := h
   refine .pure fun s' hs => ?_
   simp only [use] at hs
   simp only [eff, SX.ev_agree (x := x) hs.left, SX.ev_agree (x := i) hs.right, ia_agree (Agree.ev hs.left), hd, Option.map_some]
 | idx T x i =>
   simp only [eff, Option.map_eq_some_iff, Prod.mk.injEq] at h
   obtain ⟨d, hd, rfl, rfl⟩ := h
   refine .pure fun s' hs => ?_
   simp only [use] at hs
   simp only [eff, SX.ev_agree (x := x) hs.left, SX.ev_agree (x := i) hs.right, hd, Option.map_some]
 | ex x k =>
   simp only [eff, Option.map_eq_some_iff, Prod.mk.injEq] at h
   obtain ⟨d, hd, rfl, rfl⟩ := h
   exact .pure fun s' hs => by simp only [eff, SX.ev_agree (x := x) hs, ex_agree (Agree.ev hs), hd, Option.map_some]
 | call f args => simp [eff] at h
 | len T x =>
   simp only [eff, Option.map_eq_some_iff, Prod.mk.injEq] at h
   obtain ⟨d, hd, rfl, rfl⟩ := h
   exact .pure fun s' hs => by simp only [eff, SX.ev_agree (x := x) hs, ln_agree (Agree.ev hs), hd, Option.map_some]
 | app T U x y =>
   obtain ⟨ms, h1, h2, h3⟩ := apd_local h
   refine ⟨ms, h1, h2, fun s' hs => ?_⟩
   simp only [use] at hs
   simp only [eff, SX.ev_agree (x := x) hs.left, SX.ev_agree (x := y) hs.right]
   exact h3 s' (hs.sub fun u hu => by simp only [List.mem_append] at hu ⊢; exact hu.imp (SX.use_ev u) (SX.use_ev u))
end
def AV.one : AV → Bool
 | .agg _ => false
 | .tuple _ => false
 | _ => true
-- What a callee sees of an argument that is lent.
mutual
def view (s : St) : AV → Option AV
 | .h x q => match AV.sub q (s x) with
   | some d => (match d with | .tuple _ => none | d => if d.plain then none else some d.share)
   | none => none
 | .hp x q => if AV.cross q (s x) then (match AV.sub q (s x) with
   | some d => (match d with | .tuple _ => none | d => some (.ref d.share))
   | none => none) else none
 | .hb _ _ => none
 | .fn f cap => (views s cap).map (.fn f)
 | .hole => none
 | d => some d
def views (s : St) : List AV → Option (List AV)
 | [] => some []
 | d :: ds => match view s d, views s ds with
   | some a, some b => some (a :: b)
   | _, _ => none
end
mutual
theorem share_plain : ∀ d : AV, d.share.plain = true
 | .hole => rfl
 | .bool _ => rfl
 | .anyb => rfl
 | .int _ _ => rfl
 | .str _ => rfl
 | .nilp => rfl
 | .nils => rfl
 | .slice _ => rfl
 | .uslice _ _ => rfl
 | .ref _ => rfl
 | .ubox _ => rfl
 | .agg fs => by simp only [AV.share, AV.plain]; exact shares_plains fs
 | .tuple fs => by simp only [AV.share, AV.plain]; exact shares_plains fs
 | .fn _ _ => rfl
 | .h _ _ => rfl
 | .hp _ _ => rfl
 | .hb _ _ => rfl
theorem shares_plains : ∀ ds : List AV, AV.plains (AV.shares ds) = true
 | [] => rfl
 | d :: ds => by simp only [AV.shares, AV.plains]; rw [share_plain d, shares_plains ds]; rfl
end
theorem view_plain {s : St} {a d : AV} (h : a.plain = true) (he : view s a = some d) : d.plain = true := by
 cases a with
 | h x q =>
   simp only [view] at he
   split at he
   ·rename_i e hsub
    cases e <;> simp only at he <;> first
     | (cases he; done)
     | (split at he
        ·cases he
        ·simp only [Option.some.injEq] at he
         subst he; exact share_plain _)
   ·cases he
 | hp x q =>
   simp only [view] at he
   split at he
   ·split at he
    ·rename_i e hsub
     cases e <;> simp only at he <;> first
      | (cases he; done)
      | (simp only [Option.some.injEq] at he; subst he; rfl)
    ·cases he
   ·cases he
 | fn f cap =>
   simp only [view, Option.map_eq_some_iff] at he
   obtain ⟨ds, _, rfl⟩ := he
   rfl
 | hole => simp [view] at he
 | hb y q => simp [view] at he
 | _ => simp only [view, Option.some.injEq] at he; subst he; exact h
theorem shp_share {d : AV} {v : Value} (h1 : ∀ vs, d ≠ .tuple vs) (h : shp d v) : shp d.share v := by
 cases d <;> first | exact h | exact (h1 _ rfl).elim
theorem fol_put (w : World) : ∀ (q : List Nat) (av d d' : AV) (cs dcs : List Value) (a a' : Option (Nat × Nat)), AV.sub q av = some d → d'.wd = d.wd → fol w q av cs a = some (d, dcs, a') →
  fol w q (AV.put q d' av) cs a = some (d', dcs, a') := by
 intro q
 induction q with
 | nil =>
   intro av d d' cs dcs a a' hd hw h
   simp only [fol, Option.some.injEq, Prod.mk.injEq] at h
   obtain ⟨rfl, rfl, rfl⟩ := h
   simp only [AV.put, fol]
 | cons k q ih =>
   intro av d d' cs dcs a a' hd hw h
   cases av with
   | agg fs =>
     simp only [AV.sub] at hd
     split at hd
     ·rename_i x hx
      have hk : k < fs.length := (List.getElem?_eq_some_iff.1 hx).1
      simp only [fol, hx] at h
      simp only [AV.put, hx, fol]
      rw [List.getElem?_set_self hk]
      simp only [List.take_set_of_le (Nat.le_refl k), AV.put_wd q x d d' hd hw]
      exact ih _ _ _ _ _ _ _ hd hw h
     ·cases hd
   | tuple fs =>
     simp only [AV.sub] at hd
     split at hd
     ·rename_i x hx
      have hk : k < fs.length := (List.getElem?_eq_some_iff.1 hx).1
      simp only [fol, hx] at h
      simp only [AV.put, hx, fol]
      rw [List.getElem?_set_self hk]
      simp only [List.take_set_of_le (Nat.le_refl k), AV.put_wd q x d d' hd hw]
      exact ih _ _ _ _ _ _ _ hd hw h
     ·cases hd
   | uslice sz fs =>
     simp only [AV.sub] at hd
     split at hd
     ·rename_i x hx
      have hk : k < fs.length := (List.getElem?_eq_some_iff.1 hx).1
      have hk' : (fs.set k (AV.put q d' x))[k]? = some (AV.put q d' x) := List.getElem?_set_self hk
      simp only [AV.put, hx]
      rw [fol.eq_def] at h ⊢
      simp only [hx] at h
      simp only
      rw [hk']
      split at h
      ·rename_i e1
       simp only [Option.some.injEq] at e1; subst e1
       exact ih _ _ _ _ _ _ _ hd hw h
      ·cases h
     ·cases hd
   | ubox x =>
     cases k with
     | zero =>
       simp only [AV.sub] at hd
       rw [fol.eq_def] at h ⊢
       simp only at h
       simp only [AV.put]
       split at h
       ·rw [AV.put_wd q x d d' hd hw]
        exact ih _ _ _ _ _ _ _ hd hw h
       ·cases h
     | succ k => simp [AV.sub] at hd
   | _ => simp [AV.sub] at hd
section
variable {w0 w w' : World} {F0 X F Fc : Nat → Prop} {S : Nat → Nat → Prop} {s s' : St} {tm tm' : Nat → Value}
theorem view_sv (h : RelX w0 F0 X F S s tm w) (hF : ∀ b, F b → Fc b) : ∀ n,
  (∀ (a : AV) (v : Value) (d : AV), SizeOf.sizeOf a ≤ n → (∀ t ∈ a.hs, ∀ b, S t b → Fc b) → view s a = some d → SV w F s tm a v (fun _ => False) → SV w Fc s' tm' d v (fun _ => False)) ∧
  (∀ (as : List AV) (vs : List Value) (ds : List AV), SizeOf.sizeOf as ≤ n → (∀ t ∈ AV.hss as, ∀ b, S t b → Fc b) → views s as = some ds → SVs w F s tm as vs → SVs w Fc s' tm' ds vs) := by
 intro n
 induction n with
 | zero => exact ⟨fun a _ _ hz => by cases a <;> simp at hz <;> omega, fun as _ _ hz => by cases as <;> simp at hz <;> omega⟩
 | succ n ih =>
   refine ⟨fun a v d hz hS he hv => ?_, fun as vs ds hz hS he hv => ?_⟩
   ·cases a with
    | h x q =>
      simp only [view] at he
      split at he
      ·rename_i e hsub
       have key : (∀ fs, e ≠ .tuple fs) ∧ e.plain = false ∧ d = e.share := by
        cases e <;> simp only at he <;> first
         | (cases he; done)
         | (split at he
            ·cases he
            ·rename_i hpl
             simp only [Option.some.injEq] at he
             exact ⟨(fun _ h => by cases h), by simpa using hpl, he.symm⟩)
       obtain ⟨hnt, hpl, rfl⟩ := key
       rw [SV] at hv
       obtain ⟨dcs, a', g1, g2, g3⟩ := hv e hsub hpl
       have ht := tree_of_sub hsub (.inl hpl)
       have hx := (SV.of_tree ht).1 (h.sv x)
       obtain ⟨dcs', a2, Sc, Sd, k0, k1, k2, k3, k4, k5⟩ := ctx q (s x) (vc (tm x)) (S x) none e hx.2 hsub
       rw [g1] at k0
       simp only [Option.some.injEq, Prod.mk.injEq, true_and] at k0
       obtain ⟨rfl, rfl⟩ := k0
       have hte : e.share.tree = true := by cases e <;> first | rfl | (simp [AV.plain] at hpl)
       have hr := RV.shared hF e dcs Sd (fun b hb => hS x (by simp [AV.hs]) b (k2 b hb)) k4
       exact (SV.of_tree hte).2 ⟨shp_share hnt g3, by rw [g2]; exact hr⟩
      ·cases he
    | hp x q =>
      simp only [view] at he
      split at he
      ·rename_i hcr
       split at he
       ·rename_i e hsub
        have key : (∀ fs, e ≠ .tuple fs) ∧ d = .ref e.share := by
         cases e <;> simp only at he <;> first
          | (cases he; done)
          | (simp only [Option.some.injEq] at he; exact ⟨(fun _ h => by cases h), he.symm⟩)
        obtain ⟨hnt, rfl⟩ := key
        rw [SV] at hv
        obtain ⟨dcs, b, o, g1, rfl⟩ := hv e hsub hcr
        have ht := tree_of_sub hsub (.inr hcr)
        have hx := (SV.of_tree ht).1 (h.sv x)
        obtain ⟨dcs', a2, Sc, Sd, k0, k1, k2, k3, k4, k5⟩ := ctx q (s x) (vc (tm x)) (S x) none e hx.2 hsub
        rw [g1] at k0
        simp only [Option.some.injEq, Prod.mk.injEq, true_and] at k0
        obtain ⟨rfl, rfl⟩ := k0
        have hr := RV.shared hF e dcs Sd (fun b hb => hS x (by simp [AV.hs]) b (k2 b hb)) k4
        rcases k5 with ⟨l, r, _, e2, _⟩ | ⟨b', cur, ty, fr, l, r, e1, e2, e3, e4, e5, _⟩
        ·simp at e2
        ·simp only [Option.some.injEq, Prod.mk.injEq] at e1
         obtain ⟨rfl, rfl⟩ := e1
         refine (SV.of_tree rfl).2 ⟨rfl, ?_⟩
         rw [RV]
         refine ⟨b, l.length, dcs, rfl, hS x (by simp [AV.hs]) b (k1 b e2), ?_, hr⟩
         intro j c hj
         simp only [World.cell?, e3]
         have hc : cur[l.length + j]? = some c := by
          rw [← Array.getElem?_toList, e5, List.getElem?_append_right (by omega), List.getElem?_append_left (by
           have := (List.getElem?_eq_some_iff.1 hj).1; omega)]
          rw [← hj]; congr 1; omega
         simpa using hc
       ·cases he
      ·cases he
    | fn f cap =>
      simp only [view, Option.map_eq_some_iff] at he
      obtain ⟨ds, hds, rfl⟩ := he
      rw [SV] at hv
      obtain ⟨arr, rfl, hc⟩ := hv
      rw [SV]
      exact ⟨arr, rfl, ih.2 cap _ _ (by simp at hz; omega) (by simpa [AV.hs] using hS) hds hc⟩
    | hole => simp [view] at he
    | hb y q => simp [view] at he
    | _ =>
      simp only [view, Option.some.injEq] at he; subst he
      have hv' := (SV.of_tree rfl).1 hv
      exact (SV.of_tree rfl).2 ⟨hv'.1, RV.mono hF _ _ _ _ (fun _ h => h) hv'.2⟩
   ·cases as with
    | nil =>
      simp only [views, Option.some.injEq] at he; subst he
      rw [SVs] at hv ⊢; exact hv
    | cons a as =>
      simp only [views] at he
      split at he
      ·rename_i d ds h1 h2
       simp only [Option.some.injEq] at he; subst he
       rw [SVs] at hv ⊢
       obtain ⟨v, vs', rfl, g1, g2⟩ := hv
       simp at hz
       simp only [AV.hss, List.mem_append] at hS
       exact ⟨v, vs', rfl, ih.1 a v d (by omega) (fun t ht => hS t (.inl ht)) h1 g1, ih.2 as vs' ds (by omega) (fun t ht => hS t (.inr ht)) h2 g2⟩
      ·cases he
theorem RelX.give (h : RelX w0 F0 X F S s tm w) {x : Nat} {q : List Nat} {d0 d' : AV} {dcs : List Value} {a : Option (Nat × Nat)} {Sn : Nat → Prop}
  (hd : AV.sub q (s x) = some d0) (hf : fol w q (s x) (vc (tm x)) none = some (d0, dcs, a)) (h2 : ∀ vs, d' ≠ .tuple vs) (ht : q = [] → d'.tree = true ∧ shp d' (tm x))
  (h3 : ∀ k p, q = k :: p → (s x).tree = true ∧ (∀ v, shp1 d0 v → shp1 d' v)) (hw : d'.wd = d0.wd)
  (hv : RV w F d' dcs Sn) (hlt : ∀ b, Sn b → b < w.heap.size) (hF : ∀ b, Sn b → ¬ F b) (hS : ∀ u b, Sn b → ¬ S u b) (h0 : ∀ b, Sn b → X b ∨ w0.heap.size ≤ b) :
  RelX w0 F0 X F (updS S x (fun b => S x b ∨ Sn b)) (upd (pgS x s) x (AV.put q d' (s x))) tm w := by
 have htm : upd tm x (tm x) = tm := by funext u; simp only [upd]; split <;> simp_all
 have main : (AV.put q d' (s x)).tree = true ∧ shp (AV.put q d' (s x)) (tm x) ∧ RV w F (AV.put q d' (s x)) (vc (tm x)) (fun b => S x b ∨ Sn b) := by
  cases q with
  | nil =>
    simp only [fol, Option.some.injEq, Prod.mk.injEq] at hf
    obtain ⟨e1, e2, e3⟩ := hf
    obtain ⟨g1, g2⟩ := ht rfl
    simp only [AV.put]
    refine ⟨g1, ?_, ?_⟩
    ·exact g2
    ·rw [e2]; exact RV.mono (fun _ h => h) _ _ _ _ (fun b hb => .inr hb) hv
  | cons k p =>
    obtain ⟨g1, g2⟩ := h3 k p rfl
    have hx := (SV.of_tree g1).1 (h.sv x)
    obtain ⟨dcs', a2, Sc, Sd, k0, k1, k2, k3, k4, k5⟩ := ctx (k :: p) (s x) (vc (tm x)) (S x) none d0 hx.2 hd
    rw [hf] at k0
    simp only [Option.some.injEq, Prod.mk.injEq, true_and] at k0
    obtain ⟨rfl, rfl⟩ := k0
    refine ⟨?_, ?_, ?_⟩
    ·rcases put_cons k p d' (s x) with ⟨fs, gs, e1, e⟩ | ⟨fs, gs, e1, e⟩ | ⟨sz, xs, ys, e1, e⟩ | ⟨y, z, e1, e⟩ | e <;> rw [e] <;> first | rfl | exact g1
    ·refine shp_put hx.1 hd g2 (fun _ vs e => (h2 vs e).elim) hw
    ·have mono : ∀ b, (Sc b ∨ Sn b) → (S x b ∨ Sn b) := fun b hb => hb.imp (k1 b) id
     rcases k5 with ⟨l, r, e1, e2, e3⟩ | ⟨b, cur, ty, fr, l, r, e1, e2, e3, e4, e5, e6⟩
     ·rw [e1]
      exact RV.mono (fun _ h => h) _ _ _ _ mono (e3 w d' dcs Sn (fun _ _ => rfl) (fun _ _ => rfl) hw hv (fun b hb hc => hS x b hb (k1 b hc)))
     ·refine RV.mono (fun _ h => h) _ _ _ _ mono (e6 w d' dcs Sn (fun _ _ => rfl) (fun _ _ _ => rfl) ?_ hw hv (fun b hb hc => hS x b hb (k1 b hc)))
      rw [e3, ← e5]
 have := h.setO (t := x) main.1 main.2.1 main.2.2 (by rintro b (hb | hb); exact h.Slt x b hb; exact hlt b hb) (by rintro b (hb | hb); exact h.SF x b hb; exact hF b hb)
  (by rintro u b hne (hb | hb); exact fun hu => h.SS u x b hne hu hb; exact hS u b hb) (by rintro b (hb | hb); exact h.S0 x b hb; exact h0 b hb)
 rwa [htm] at this
end
-- Nothing shared in it.
mutual
def AV.nosh : AV → Bool
 | .slice _ => false
 | .ref _ => false
 | .fn _ _ => false
 | .h _ _ => false
 | .hp _ _ => false
 | .hb _ _ => false
 | .uslice _ xs => AV.noshs xs
 | .ubox d => d.nosh
 | .agg fs => AV.noshs fs
 | .tuple fs => AV.noshs fs
 | _ => true
def AV.noshs : List AV → Bool
 | [] => true
 | d :: ds => d.nosh && AV.noshs ds
end
mutual
theorem RV.nosh {w : World} {F F' : Nat → Prop} : ∀ (d : AV) (cs : List Value) (S : Nat → Prop), d.nosh = true → RV w F d cs S → RV w F' d cs S
 | .hole, _, _, _, h => h
 | .bool _, _, _, _, h => h
 | .anyb, _, _, _, h => h
 | .int _ _, _, _, _, h => h
 | .str _, _, _, _, h => h
 | .nilp, _, _, _, h => h
 | .nils, _, _, _, h => h
 | .slice xs, cs, S, hn, h => by simp [AV.nosh] at hn
 | .ref d, cs, S, hn, h => by simp [AV.nosh] at hn
 | .uslice sz xs, cs, S, hn, h => by
   rw [RV] at h ⊢
   rcases h with h | ⟨b, cap, cur, e, fr, S', h1, h2, h3, h4, h5, h6, h7, h8, h9, h10, h11⟩
   ·exact .inl h
   ·exact .inr ⟨b, cap, cur, e, fr, S', h1, h2, h3, h4, h5, h6, h7, h8, RVs.nosh xs _ _ hn h9, h10, h11⟩
 | .ubox d, cs, S, hn, h => by
   rw [RV] at h ⊢
   obtain ⟨b, cur, e, fr, S', h1, h2, h3, h4, h5, h6, h7⟩ := h
   exact ⟨b, cur, e, fr, S', h1, h2, h3, h4, RV.nosh d _ _ hn h5, h6, h7⟩
 | .agg fs, cs, S, hn, h => by rw [RV] at h ⊢; exact RVs.nosh fs _ _ hn h
 | .tuple fs, cs, S, hn, h => by rw [RV] at h ⊢; exact RVs.nosh fs _ _ hn h
 | .fn _ _, _, _, _, h => h
 | .h _ _, _, _, _, h => h
 | .hp _ _, _, _, _, h => h
 | .hb _ _, _, _, _, h => h
theorem RVs.nosh {w : World} {F F' : Nat → Prop} : ∀ (ds : List AV) (cs : List Value) (S : Nat → Prop), AV.noshs ds = true → RVs w F ds cs S → RVs w F' ds cs S
 | [], _, _, _, h => h
 | d :: ds, cs, S, hn, h => by
   simp only [AV.noshs, Bool.and_eq_true] at hn
   rw [RVs] at h ⊢
   obtain ⟨c1, c2, S1, S2, h1, h2, h3, h4, h5, h6⟩ := h
   exact ⟨c1, c2, S1, S2, h1, RV.nosh d _ _ hn.1 h2, RVs.nosh ds _ _ hn.2 h3, h4, h5, h6⟩
end
theorem sub_put : ∀ (q : List Nat) (av d e : AV), AV.sub q av = some d → AV.sub q (AV.put q e av) = some e := by
 intro q
 induction q with
 | nil => intro av d e _; simp [AV.put, AV.sub]
 | cons k q ih =>
   intro av d e h
   cases av with
   | agg fs =>
     simp only [AV.sub] at h
     split at h
     ·rename_i x hx
      have hk : k < fs.length := (List.getElem?_eq_some_iff.1 hx).1
      simp only [AV.put, hx, AV.sub, List.getElem?_set_self hk]
      exact ih _ _ _ h
     ·cases h
   | tuple fs =>
     simp only [AV.sub] at h
     split at h
     ·rename_i x hx
      have hk : k < fs.length := (List.getElem?_eq_some_iff.1 hx).1
      simp only [AV.put, hx, AV.sub, List.getElem?_set_self hk]
      exact ih _ _ _ h
     ·cases h
   | uslice sz fs =>
     simp only [AV.sub] at h
     split at h
     ·rename_i x hx
      have hk : k < fs.length := (List.getElem?_eq_some_iff.1 hx).1
      simp only [AV.put, hx, AV.sub, List.getElem?_set_self hk]
      exact ih _ _ _ h
     ·cases h
   | ubox x =>
     cases k with
     | zero => simp only [AV.sub] at h; simp only [AV.put, AV.sub]; exact ih _ _ _ h
     | succ k => simp [AV.sub] at h
   | _ => simp [AV.sub] at h
structure PA where
 a : AV
 g : Bool
 d : AV
 o : AV
def AV.own : AV → Bool
 | .uslice _ _ => true
 | .ubox _ => true
 | _ => false
def AV.ow : AV → Bool
 | .uslice _ _ => true
 | .ubox _ => true
 | .agg fs => !AV.plains fs
 | _ => false
def likeA (d o : AV) : Bool := match d, o with
 | .agg a, .agg b => AV.wds a == AV.wds b
 | .agg _, _ => false
 | _, .agg _ => false
 | _, _ => true
theorem ow_spec {d : AV} (h : d.ow = true) : d.plain = false ∧ d.tree = true ∧ ∀ vs, d ≠ .tuple vs := by
 cases d <;> simp [AV.ow] at h <;> first | exact ⟨rfl, rfl, fun vs e => by cases e⟩ | exact ⟨by simp only [AV.plain]; exact h, rfl, fun vs e => by cases e⟩
theorem like_spec {d o : AV} (h : d.ow = true) (ho : o.ow = true) (hl : likeA d o = true) : o.wd = d.wd ∧ (∀ v, shp d v → shp o v) ∧ ∀ v, shp1 d.hollow v → shp1 o v := by
 cases d <;> simp [AV.ow] at h <;> cases o <;> simp [AV.ow] at ho <;> simp [likeA] at hl <;> first
  | exact ⟨rfl, fun _ h => h, fun _ h => h⟩
  | exact ⟨by simp only [AV.wd]; exact hl.symm, fun _ h => h, fun _ h => h⟩
def PA.ok (s : St) (p : PA) : Prop :=
 if p.g then (match p.a with | .h x q => AV.sub q (s x) = some p.d ∧ p.d.ow = true ∧ (p.o = .hole ∨ (p.o.ow = true ∧ likeA p.d p.o = true)) | _ => False)
 else view s p.a = some p.d
def apartPA : List PA → Bool
 | [] => true
 | p :: r => (r.all fun p' => !(p.g || p'.g) || (p.a.hs.all fun u => !p'.a.hs.contains u)) && apartPA r
def PA.take (s : St) (p : PA) : St :=
 if p.g then (match p.a with | .h x q => upd (pkS x s) x (AV.put q p.d.hollow (s x)) | _ => s) else s
def PA.give (s : St) (p : PA) : St :=
 if p.g then (match p.a, p.o with | _, .hole => s | .h x q, o => upd (pgS x s) x (AV.put q o (s x)) | _, _ => s) else s
def takeL (s : St) (ps : List PA) : St := ps.foldl PA.take s
def giveL (s : St) (ps : List PA) : St := ps.foldl PA.give s
section
variable {w0 w w' : World} {F0 X F Fc : Nat → Prop} {S : Nat → Nat → Prop} {s s' : St} {tm tm' : Nat → Value}
def Took (w : World) (F : Nat → Prop) (s1 : St) (tm : Nat → Value) (p : PA) (v : Value) (Sn : Nat → Prop) : Prop :=
 ∃ x q a0, p.a = .h x q ∧ AV.sub q (s1 x) = some p.d.hollow ∧ fol w q (s1 x) (vc (tm x)) none = some (p.d.hollow, vc v, a0) ∧ (s1 x).hs = [] ∧ (q = [] → shp p.d (tm x)) ∧ (q ≠ [] → (s1 x).tree = true) ∧
   shp p.d v ∧ RV w F p.d (vc v) Sn
theorem take_keep {p : PA} {x : Nat} (h : (s x).hs = []) (hp : p.g = true → x ∉ p.a.hs) : PA.take s p x = s x := by
 unfold PA.take
 split
 ·rename_i hg
  cases ha : p.a with
  | h y q =>
    have : x ≠ y := by
     have := hp hg
     rw [ha] at this
     simpa [AV.hs] using this
    simp only
    rw [upd_ne _ _ this]
    exact pk_id _ (by rw [h]; simp)
  | _ => rfl
 ·rfl
theorem takeL_keep : ∀ {ps : List PA} {s : St} {x : Nat}, (s x).hs = [] → (∀ p ∈ ps, p.g = true → x ∉ p.a.hs) → takeL s ps x = s x := by
 intro ps
 induction ps with
 | nil => intros; rfl
 | cons p ps ih =>
   intro s x h hp
   have e := take_keep (s := s) (p := p) h (hp p (by simp))
   show takeL (PA.take s p) ps x = s x
   rw [ih (by rw [e]; exact h) (fun p' hp' => hp p' (by simp [hp'])), e]
theorem own_spec {d : AV} (h : d.own = true) : d.plain = false ∧ d.tree = true ∧ d.hollow = .hole ∧ d.one = true ∧ d.wd = 1 ∧ (∀ v, shp d v ↔ Value.isOne v = true) := by
 cases d <;> simp [AV.own] at h <;> exact ⟨rfl, rfl, rfl, rfl, rfl, fun v => Iff.rfl⟩
theorem takes_ok : ∀ (ps : List PA) (vs : List Value) (s : St) (S : Nat → Nat → Prop), RelX w0 F0 X F S s tm w → ps.length = vs.length →
  (∀ (i : Nat) (p : PA) (v : Value), ps[i]? = some p → vs[i]? = some v → p.a.plain = true ∧ SV w F s tm p.a v (fun _ => False) ∧ (p.g = true → p.ok s)) → apartPA ps = true →
  ∃ (Sn S1 : Nat → Nat → Prop), RelX w0 F0 X F S1 (takeL s ps) tm w ∧ (∀ u b, S1 u b → S u b) ∧
    (∀ (i : Nat) (p : PA) (v : Value), ps[i]? = some p → vs[i]? = some v → p.g = true → Took w F (takeL s ps) tm p v (Sn i)) ∧
    (∀ i b, Sn i b → ∃ p, ps[i]? = some p ∧ p.g = true) ∧
    (∀ i b, Sn i b → ∃ u, S u b) ∧ (∀ i u b, Sn i b → ¬ S1 u b) ∧ (∀ i j b, i ≠ j → Sn i b → ¬ Sn j b) ∧
    (∀ (d' : AV) (v' : Value) (S' : Nat → Prop), (∀ p ∈ ps, p.g = true → ∀ u ∈ p.a.hs, u ∉ d'.hs) → SV w F s tm d' v' S' → SV w F (takeL s ps) tm d' v' S') := by
 intro ps
 induction ps with
 | nil =>
   intro vs s S h hl _ _
   exact ⟨fun _ _ => False, S, h, fun _ _ h => h, fun i p v hp => by simp at hp, fun _ _ h => h.elim, fun _ _ h => h.elim, fun _ _ _ h => h.elim, fun _ _ _ _ h => h.elim, fun _ _ _ _ h => h⟩
 | cons p ps ih =>
   intro vs s S h hl hps hap
   cases vs with
   | nil => simp at hl
   | cons v vs =>
     simp only [List.length_cons, Nat.add_right_cancel_iff] at hl
     simp only [apartPA, Bool.and_eq_true, List.all_eq_true, Bool.or_eq_true, Bool.not_eq_true'] at hap
     obtain ⟨hap1, hap2⟩ := hap
     have hap1' : ∀ p' ∈ ps, (p.g = true ∨ p'.g = true) → ∀ u ∈ p.a.hs, u ∉ p'.a.hs := by
      intro p' hp' hg u hu
      rcases hap1 p' hp' with e | e
      ·rcases hg with hg | hg <;> simp [hg] at e
      ·simpa using e u hu
     obtain ⟨f1, f2, f3⟩ := hps 0 p v rfl rfl
     cases hg : p.g with
     | false =>
       have e0 : PA.take s p = s := by simp [PA.take, hg]
       obtain ⟨Sn, S1, g1, g2, g3, g4, g5, g6, g7, g8⟩ := ih vs s S h hl (fun i p' v' hp hv => hps (i + 1) p' v' (by simpa using hp) (by simpa using hv)) hap2
       have e1 : takeL s (p :: ps) = takeL s ps := by show takeL (PA.take s p) ps = _; rw [e0]
       rw [e1]
       refine ⟨fun i => match i with | 0 => fun _ => False | i + 1 => Sn i, S1, g1, g2, ?_, ?_, ?_, ?_, ?_, fun d' v' S' hd => g8 d' v' S' fun p' hp' => hd p' (by simp [hp'])⟩
       ·intro i p' v' hp hv hg'
        cases i with
        | zero => simp at hp; subst hp; rw [hg] at hg'; cases hg'
        | succ i => exact g3 i p' v' (by simpa using hp) (by simpa using hv) hg'
       ·intro i b hb
        cases i with
        | zero => exact hb.elim
        | succ i => simpa using g4 i b hb
       ·intro i b hb
        cases i with
        | zero => exact hb.elim
        | succ i => exact g5 i b hb
       ·intro i u b hb
        cases i with
        | zero => exact hb.elim
        | succ i => exact g6 i u b hb
       ·intro i j b hne hi hj
        cases i with
        | zero => exact hi.elim
        | succ i =>
          cases j with
          | zero => exact hj.elim
          | succ j => exact g7 i j b (by omega) hi hj
     | true =>
       have hok := f3 hg
       simp only [PA.ok, hg, if_true] at hok
       split at hok
       ·rename_i x q ha
        obtain ⟨hsub, hown, hout⟩ := hok
        obtain ⟨o1, o2, o3⟩ := ow_spec hown
        have htk : tk s p.a = some (p.d, upd (pkS x s) x (AV.put q p.d.hollow (s x))) := by
         rw [ha]; simp only [tk, hsub, o1]; rfl
        obtain ⟨S1, t1, t2, t3, Sn0, t4, t5, t6, t7, t8, t9, t10, t11⟩ := tk_sv h f1 f2 htk
        have e0 : PA.take s p = upd (pkS x s) x (AV.put q p.d.hollow (s x)) := by simp [PA.take, hg, ha]
        have hxs : ∀ p' ∈ ps, x ∉ p'.a.hs := fun p' hp' => hap1' p' hp' (.inl hg) x (by rw [ha]; simp [AV.hs])
        have hsx : PA.take s p x = AV.put q p.d.hollow (s x) := by rw [e0, upd_same]
        have hhs : (PA.take s p x).hs = [] := by
         rw [hsx]; exact put_hs q _ _ _ hsub (.inl o1) (fun _ => by cases hd : p.d <;> first | rfl | (rw [hd] at hown; simp [AV.ow] at hown))
        obtain ⟨Sn, S2, g1, g2, g3, g4, g5, g6, g7, g8⟩ := ih vs (PA.take s p) S1 (by rw [e0]; exact t1) hl (by
         intro i p' v' hp hv
         obtain ⟨k1, k2, k3⟩ := hps (i + 1) p' v' (by simpa using hp) (by simpa using hv)
         have hm : p' ∈ ps := List.mem_of_getElem? hp
         refine ⟨k1, ?_, ?_⟩
         ·have := t11 _ _ _ k2
          rw [ha] at this
          rw [e0]
          simp only [AV.owner, pkO] at this
          rwa [pk_id _ (hxs p' hm)] at this
         ·intro hg'
          have := k3 hg'
          simp only [PA.ok, hg', if_true] at this ⊢
          split at this
          ·rename_i y q' ha'
           have hne : y ≠ x := fun e => hxs p' hm (by rw [ha', e]; simp [AV.hs])
           rw [e0, upd_ne _ _ hne]
           have ht := tree_of_sub this.1 (.inl (ow_spec this.2.1).1)
           simp only [pkS, pk_tree ht]
           exact this
          ·exact this.elim) hap2
        have e1 : takeL s (p :: ps) = takeL (PA.take s p) ps := rfl
        have hkeep : takeL (PA.take s p) ps x = AV.put q p.d.hollow (s x) := by
         rw [takeL_keep hhs (fun p' hp' _ => hxs p' hp'), hsx]
        rw [e1]
        refine ⟨fun i => match i with | 0 => Sn0 | i + 1 => Sn i, S2, g1, fun u b hb => t9 u b (g2 u b hb), ?_, ?_, ?_, ?_, ?_, ?_⟩
        rotate_left 5
        ·intro d' v' S' hd hsv
         refine g8 d' v' S' (fun p' hp' => hd p' (by simp [hp'])) ?_
         have := t11 _ _ _ hsv
         rw [ha] at this
         rw [e0]
         simp only [AV.owner, pkO] at this
         rwa [pk_id _ (hd p (by simp) hg x (by rw [ha]; simp [AV.hs]))] at this
        ·intro i p' v' hp hv hg'
         cases i with
         | zero =>
           simp at hp hv; subst hp hv
           have f2' := f2
           rw [ha, SV] at f2'
           obtain ⟨dcs, a0, c1, c2, c3⟩ := f2' _ hsub o1
           refine ⟨x, q, a0, ha, ?_, ?_, ?_, ?_, ?_, t3, t4⟩
           ·rw [hkeep]; exact sub_put q _ _ _ hsub
           ·rw [hkeep, c2]; exact fol_put w q _ _ _ _ _ _ _ hsub (AV.hollow_wd _) c1
           ·rw [hkeep, ← hsx]; exact hhs
           ·intro hq; subst hq
            simp only [AV.sub, Option.some.injEq] at hsub
            have := (SV.of_tree (by rw [hsub]; exact o2)).1 (h.sv x)
            rw [hsub] at this
            exact this.1
           ·intro hq
            have ht := tree_of_sub hsub (.inl o1)
            rw [hkeep]
            cases q with
            | nil => exact (hq rfl).elim
            | cons k q => rcases put_cons k q p.d.hollow (s x) with ⟨fs, gs, e1, e⟩ | ⟨fs, gs, e1, e⟩ | ⟨sz, xs, ys, e1, e⟩ | ⟨y, z, e1, e⟩ | e <;> rw [e] <;> first | rfl | exact ht
         | succ i => exact g3 i p' v' (by simpa using hp) (by simpa using hv) hg'
        ·intro i b hb
         cases i with
         | zero => exact ⟨p, rfl, hg⟩
         | succ i => simpa using g4 i b hb
        ·intro i b hb
         cases i with
         | zero => exact t10 b hb
         | succ i => obtain ⟨u, hu⟩ := g5 i b hb; exact ⟨u, t9 u b hu⟩
        ·intro i u b hb
         cases i with
         | zero => exact fun hu => t7 u b hb (g2 u b hu)
         | succ i => exact g6 i u b hb
        ·intro i j b hne hi hj
         cases i with
         | zero =>
           cases j with
           | zero => exact hne rfl
           | succ j => obtain ⟨u, hu⟩ := g5 j b hj; exact t7 u b hi hu
         | succ i =>
           cases j with
           | zero => obtain ⟨u, hu⟩ := g5 i b hi; exact t7 u b hj hu
           | succ j => exact g7 i j b (by omega) hi hj
       ·exact hok.elim
end
def stL (l : List AV) : St := fun i => l.getD i .hole
def tmL (l : List Value) : Nat → Value := fun i => l.getD i undef
def Gets (P : Program) (f : FuncId) (args : Array Value) (w : World) (R : Value → World → Prop) : Prop :=
 ((callFunc f args).run P w = .ok (.enter f args) w ∧ Calls P f args w (fun e w' => ∃ v, e = .returned v ∧ R v w')) ∨
 ∃ v w', (callFunc f args).run P w = .ok (.value v) w' ∧ R v w'
theorem Gets.mono {P : Program} {f : FuncId} {args : Array Value} {w : World} {R R' : Value → World → Prop} (h : Gets P f args w R) (hr : ∀ v w', R v w' → R' v w') : Gets P f args w R' := by
 rcases h with ⟨h1, h2⟩ | ⟨v, w', h1, h2⟩
 ·exact .inl ⟨h1, Calls.mono h2 fun e w' ⟨v, e, h⟩ => ⟨v, e, hr v w' h⟩⟩
 ·exact .inr ⟨v, w', h1, hr v w' h2⟩
def OkAt (C : Cx) (f : FuncId) (as : List AV) (r : AV) (outs : List AV) : Prop :=
 ∀ (w : World) (F X : Nat → Prop) (S : Nat → Nat → Prop) (vs : List Value), vs.length = as.length → RelX w F X F S (stL as) (tmL vs) w →
   Gets C.P f vs.toArray w fun v w' => ∃ F' S', RelX w F X F' S' (stL (r :: outs)) (tmL (v :: vs)) w'
def AV.res : AV → Bool
 | .h _ _ => false
 | .hp _ _ => false
 | .hb _ _ => false
 | .fn _ _ => false
 | _ => true
theorem tree_hs {d : AV} (h : d.tree = true) : d.hs = [] := by cases d <;> first | rfl | (simp [AV.tree] at h)
mutual
theorem view_keep {s s' : St} : ∀ (a : AV) (d : AV), (∀ u ∈ a.hs, (s u).tree = true → s' u = s u) → view s a = some d → view s' a = some d
 | .h x q, d, hu, h => by
   have ht : (s x).tree = true := by
    simp only [view] at h
    split at h
    ·rename_i e hsub
     cases e <;> simp only at h <;> first
      | (cases h; done)
      | (split at h
         ·cases h
         ·rename_i hp
          exact tree_of_sub hsub (.inl (by simpa using hp)))
    ·cases h
   simp only [view] at h ⊢
   rw [hu x (by simp [AV.hs]) ht]; exact h
 | .hp x q, d, hu, h => by
   have ht : (s x).tree = true := by
    simp only [view] at h
    split at h
    ·rename_i hc
     split at h
     ·rename_i e hsub; exact tree_of_sub hsub (.inr hc)
     ·cases h
    ·cases h
   simp only [view] at h ⊢
   rw [hu x (by simp [AV.hs]) ht]; exact h
 | .hb x q, d, hu, h => by simp [view] at h
 | .fn f cap, d, hu, h => by
   simp only [view, Option.map_eq_some_iff] at h ⊢
   obtain ⟨ds, h1, h2⟩ := h
   exact ⟨ds, views_keep cap ds (by simpa [AV.hs] using hu) h1, h2⟩
 | .hole, d, hu, h => h
 | .bool _, d, hu, h => h
 | .anyb, d, hu, h => h
 | .int _ _, d, hu, h => h
 | .str _, d, hu, h => h
 | .nilp, d, hu, h => h
 | .nils, d, hu, h => h
 | .slice _, d, hu, h => h
 | .uslice _ _, d, hu, h => h
 | .ref _, d, hu, h => h
 | .ubox _, d, hu, h => h
 | .agg _, d, hu, h => h
 | .tuple _, d, hu, h => h
theorem views_keep {s s' : St} : ∀ (as : List AV) (ds : List AV), (∀ u ∈ AV.hss as, (s u).tree = true → s' u = s u) → views s as = some ds → views s' as = some ds
 | [], ds, hu, h => h
 | a :: as, ds, hu, h => by
   simp only [AV.hss, List.mem_append] at hu
   simp only [views] at h ⊢
   split at h
   ·rename_i x y h1 h2
    rw [view_keep a x (fun u hm => hu u (.inl hm)) h1, views_keep as y (fun u hm => hu u (.inr hm)) h2]; exact h
   ·cases h
end
section
variable {C : Cx} {w0 w w' : World} {F0 X F Fc : Nat → Prop} {S : Nat → Nat → Prop} {s s' : St} {tm tm' : Nat → Value}
def Gv (w : World) (F : Nat → Prop) (s : St) (tm : Nat → Value) (p : PA) (v : Value) (So : Nat → Prop) : Prop :=
 p.g = true → p.o = .hole ∨ ∃ x q a0 d0, p.a = .h x q ∧ AV.sub q (s x) = some d0 ∧ fol w q (s x) (vc (tm x)) none = some (d0, vc v, a0) ∧ (s x).hs = [] ∧
  (q = [] → shp p.o (tm x)) ∧ (q ≠ [] → (s x).tree = true) ∧ p.o.ow = true ∧ RV w F p.o (vc v) So ∧ p.o.wd = d0.wd ∧ ∀ v, shp1 d0 v → shp1 p.o v
theorem gives_ok : ∀ (ps : List PA) (vs : List Value) (s : St) (S So : Nat → Nat → Prop), RelX w0 F0 X F S s tm w → ps.length = vs.length →
  (∀ (i : Nat) (p : PA) (v : Value), ps[i]? = some p → vs[i]? = some v → Gv w F s tm p v (So i)) →
  (∀ i b, So i b → b < w.heap.size ∧ ¬ F b ∧ (X b ∨ w0.heap.size ≤ b) ∧ ∀ u, ¬ S u b) → (∀ i j b, i ≠ j → So i b → ¬ So j b) → apartPA ps = true →
  ∃ S2, RelX w0 F0 X F S2 (giveL s ps) tm w ∧ ∀ u b, S2 u b → S u b ∨ ∃ i, So i b := by
 intro ps
 induction ps with
 | nil => intro vs s S So h _ _ _ _ _; exact ⟨S, h, fun u b hb => .inl hb⟩
 | cons p ps ih =>
   intro vs s S So h hl hgv hb hd hap
   cases vs with
   | nil => simp at hl
   | cons v vs =>
     simp only [List.length_cons, Nat.add_right_cancel_iff] at hl
     simp only [apartPA, Bool.and_eq_true, List.all_eq_true, Bool.or_eq_true, Bool.not_eq_true'] at hap
     obtain ⟨hap1, hap2⟩ := hap
     have hap1' : ∀ p' ∈ ps, (p.g = true ∨ p'.g = true) → ∀ u ∈ p.a.hs, u ∉ p'.a.hs := by
      intro p' hp' hg u hu
      rcases hap1 p' hp' with e | e
      ·rcases hg with hg | hg <;> simp [hg] at e
      ·simpa using e u hu
     have skip : PA.give s p = s → ∃ S2, RelX w0 F0 X F S2 (giveL s (p :: ps)) tm w ∧ ∀ u b, S2 u b → S u b ∨ ∃ i, So i b := by
      intro e0
      obtain ⟨S2, g1, g2⟩ := ih vs s S (fun i => So (i + 1)) h hl (fun i p' v' hp hv => hgv (i + 1) p' v' (by simpa using hp) (by simpa using hv)) (fun i b h => hb (i + 1) b h)
       (fun i j b hne => hd (i + 1) (j + 1) b (by omega)) hap2
      refine ⟨S2, ?_, fun u b hu => (g2 u b hu).imp id fun ⟨i, hi⟩ => ⟨i + 1, hi⟩⟩
      show RelX _ _ _ _ _ (giveL (PA.give s p) ps) _ _
      rw [e0]; exact g1
     cases hg : p.g with
     | false => exact skip (by simp [PA.give, hg])
     | true =>
       rcases hgv 0 p v rfl rfl hg with ho | ⟨x, q, a0, d0, ha, c1, c2, c3, c4, c5, c6, c7, c8, c9⟩
       ·exact skip (by simp only [PA.give, hg, ho, if_true])
       ·obtain ⟨o1, o2, o4⟩ := ow_spec c6
        have e0 : PA.give s p = upd (pgS x s) x (AV.put q p.o (s x)) := by
         simp only [PA.give, hg, if_true, ha]
         cases hpo : p.o <;> first | rfl | (rw [hpo] at c6; simp [AV.ow] at c6)
        have step := h.give (x := x) (q := q) (d' := p.o) c1 c2 o4 (fun hq => ⟨o2, c4 hq⟩) (fun k r hq => ⟨c5 (by rw [hq]; simp), c9⟩) c8 c7
         (fun b h => (hb 0 b h).1) (fun b h => (hb 0 b h).2.1) (fun u b h => (hb 0 b h).2.2.2 u) (fun b h => (hb 0 b h).2.2.1)
        rw [← e0] at step
        obtain ⟨S2, g1, g2⟩ := ih vs (PA.give s p) _ (fun i => So (i + 1)) step hl (by
         intro i p' v' hp hv hg'
         have hm : p' ∈ ps := List.mem_of_getElem? hp
         rcases hgv (i + 1) p' v' (by simpa using hp) (by simpa using hv) hg' with ho | ⟨y, q', a1, d1, k1, k2, k3, k4, k5, k6, k7, k8, k9⟩
         ·exact .inl ho
         ·have hne : y ≠ x := fun e => hap1' p' hm (.inl hg) x (by rw [ha]; simp [AV.hs]) (by rw [k1, e]; simp [AV.hs])
          have hsy : PA.give s p y = s y := by
           rw [e0, upd_ne _ _ hne]
           exact pg_id _ (by rw [k4]; simp)
          exact .inr ⟨y, q', a1, d1, k1, by rw [hsy]; exact k2, by rw [hsy]; exact k3, by rw [hsy]; exact k4, k5, by rw [hsy]; exact k6, k7, k8, k9⟩)
         (by
          intro i b hi
          obtain ⟨b1, b2, b3, b4⟩ := hb (i + 1) b hi
          refine ⟨b1, b2, b3, fun u hu => ?_⟩
          simp only [updS] at hu
          split at hu
          ·rcases hu with hu | hu
           ·exact b4 _ hu
           ·exact hd 0 (i + 1) b (by omega) hu hi
          ·exact b4 _ hu)
         (fun i j b hne => hd (i + 1) (j + 1) b (by omega)) hap2
        refine ⟨S2, g1, fun u b hu => ?_⟩
        rcases g2 u b hu with hu | ⟨i, hi⟩
        ·simp only [updS] at hu
         split at hu
         ·rename_i e; subst e
          exact hu.imp id fun h => ⟨0, h⟩
         ·exact .inl hu
        ·exact .inr ⟨i + 1, hi⟩
def lent (ps : List PA) : Bool := ps.any fun p => !p.g && !p.a.hs.isEmpty
theorem call_soundG (h : RelX w0 F0 X F S s tm w) {ps : List PA} {vs : List Value} {f : FuncId} {r : AV} (hl : ps.length = vs.length)
  (hsv : ∀ (i : Nat) (p : PA) (v : Value), ps[i]? = some p → vs[i]? = some v → p.a.plain = true ∧ SV w F s tm p.a v (fun _ => False))
  (hok : ∀ p ∈ ps, p.ok s) (hap : apartPA ps = true) (hf : ∀ (Fc Xc : Nat → Prop) (Sc : Nat → Nat → Prop), (∀ b, F b → Fc b) → (∀ b, Xc b → ∃ u, S u b) → RelX w Fc Xc Fc Sc (stL (ps.map (·.d))) (tmL vs) w →
   Gets C.P f vs.toArray w fun v w' => ∃ F' S', RelX w Fc Xc F' S' (stL (r :: ps.map (·.o))) (tmL (v :: vs)) w') (hr : r.res = true)
  (hn : lent ps = true → r.nosh = true ∧ ∀ p ∈ ps, p.o.nosh = true) :
  Gets C.P f vs.toArray w fun v w' => ∃ F' S', RelX w0 F0 X F' S' (giveL (takeL s ps) ps) tm w' ∧ Val w0 X F' S' (giveL (takeL s ps) ps) tm w' r v ∧ ∀ b, F b → F' b ∧ w'.heap[b]? = w.heap[b]? := by
 obtain ⟨Sn, S1, g1, g2, g3, g4, g5, g6, g7, g8⟩ := takes_ok ps vs s S h hl (fun i p v hp hv => ⟨(hsv i p v hp hv).1, (hsv i p v hp hv).2, fun _ => hok p (List.mem_of_getElem? hp)⟩) hap
 have apart : ∀ (i j : Nat) (p p' : PA), ps[i]? = some p → ps[j]? = some p' → i ≠ j → (p.g = true ∨ p'.g = true) → ∀ u ∈ p.a.hs, u ∉ p'.a.hs := by
  clear hsv hok hf hn g1 g3 g4 g8 hl
  induction ps with
  | nil => intro i j p p' hp; simp at hp
  | cons p0 ps ih =>
    simp only [apartPA, Bool.and_eq_true, List.all_eq_true, Bool.or_eq_true, Bool.not_eq_true'] at hap
    obtain ⟨hap1, hap2⟩ := hap
    have hap1' : ∀ p' ∈ ps, (p0.g = true ∨ p'.g = true) → ∀ u ∈ p0.a.hs, u ∉ p'.a.hs := by
     intro p' hp' hg u hu
     rcases hap1 p' hp' with e | e
     ·rcases hg with hg | hg <;> simp [hg] at e
     ·simpa using e u hu
    intro i j p p' hp hp' hne hg u hu
    cases i with
    | zero =>
      simp at hp; subst hp
      cases j with
      | zero => exact (hne rfl).elim
      | succ j => exact hap1' p' (List.mem_of_getElem? (by simpa using hp')) hg u hu
    | succ i =>
      cases j with
      | zero =>
        simp at hp'; subst hp'
        exact fun hu' => hap1' p (List.mem_of_getElem? (by simpa using hp)) hg.symm u hu' hu
      | succ j => exact ih hap2 i j p p' (by simpa using hp) (by simpa using hp') (by omega) hg u hu
 let Fc : Nat → Prop := fun b => F b ∨ (lent ps = true ∧ ∃ u, S1 u b)
 let Xc : Nat → Prop := fun b => ∃ i, Sn i b
 have nX : ∀ b, F b → ¬ Xc b := fun b hF ⟨i, hi⟩ => by obtain ⟨u, hu⟩ := g5 i b hi; exact h.SF u b hu hF
 have nX1 : ∀ u b, S1 u b → ¬ Xc b := fun u b hu ⟨i, hi⟩ => g6 i u b hi hu
 have X0 : ∀ b, Xc b → (X b ∨ w0.heap.size ≤ b) ∧ b < w.heap.size := fun b ⟨i, hi⟩ => by obtain ⟨u, hu⟩ := g5 i b hi; exact ⟨h.S0 u b hu, h.Slt u b hu⟩
 have pre : RelX w Fc Xc Fc Sn (stL (ps.map (·.d))) (tmL vs) w := by
  refine ⟨fun _ h => h, fun _ h => .inl h, ?_, fun i b hi => (X0 b ⟨i, hi⟩).2, ?_, fun i j b hne => g7 i j b hne, fun i b hi => .inl ⟨i, hi⟩, ?_, fun _ _ _ => rfl, Nat.le_refl _, rfl, rfl, rfl⟩
  ·rintro b (hb | ⟨_, u, hu⟩)
   ·exact h.Flt b hb
   ·exact g1.Slt u b hu
  ·rintro i b hi (hb | ⟨_, u, hu⟩)
   ·exact nX b hb ⟨i, hi⟩
   ·exact g6 i u b hi hu
  ·intro t
   cases hp : ps[t]? with
   | none =>
     have : stL (ps.map (·.d)) t = .hole := by simp [stL, List.getD, hp]
     rw [this, SV]; trivial
   | some p =>
     have hlt : t < vs.length := by rw [← hl]; exact (List.getElem?_eq_some_iff.1 hp).1
     have hv : vs[t]? = some vs[t] := List.getElem?_eq_getElem hlt
     have e1 : stL (ps.map (·.d)) t = p.d := by simp [stL, List.getD, hp]
     have e2 : tmL vs t = vs[t] := by simp [tmL, List.getD, hv]
     rw [e1, e2]
     have hm : p ∈ ps := List.mem_of_getElem? hp
     have hk := hok p hm
     cases hg : p.g with
     | true =>
       obtain ⟨x, q, a0, k1, k2, k3, k4, k5, k6, k7, k8⟩ := g3 t p _ hp hv hg
       simp only [PA.ok, hg, if_true, k1] at hk
       exact (SV.of_tree (ow_spec hk.2.1).2.1).2 ⟨k7, RV.mono (fun b hb => .inl hb) _ _ _ _ (fun _ h => h) k8⟩
     | false =>
       simp only [PA.ok, hg] at hk
       obtain ⟨f1, f2⟩ := hsv t p _ hp hv
       have far : ∀ p' ∈ ps, p'.g = true → ∀ u ∈ p'.a.hs, u ∉ p.a.hs := by
        intro p' hp' hg' u hu
        obtain ⟨j, hj⟩ := List.getElem?_of_mem hp'
        refine apart j t p' p hj hp (fun e => ?_) (.inl hg') u hu
        subst e; rw [hp] at hj; simp only [Option.some.injEq] at hj; rw [hj, hg'] at hg; cases hg
       have f2' := g8 _ _ _ far f2
       have hk' : view (takeL s ps) p.a = some p.d := view_keep _ _ (fun u hu ht => takeL_keep (tree_hs ht) (fun p' hp' hg' hu' => far p' hp' hg' u hu' hu)) (by simpa using hk)
       refine SV.nothing (view_plain f1 hk') ((view_sv g1 (Fc := Fc) (fun b hb => .inl hb) (SizeOf.sizeOf p.a)).1 p.a _ p.d (Nat.le_refl _) ?_ hk' f2')
       intro u hu b hb
       refine .inr ⟨?_, u, hb⟩
       simp only [lent, List.any_eq_true]
       refine ⟨p, hm, ?_⟩
       cases hh : p.a.hs with
       | nil => rw [hh] at hu; cases hu
       | cons _ _ => simp [hg]
 refine Gets.mono (hf Fc Xc Sn (fun b hb => .inl hb) (fun b ⟨i, hi⟩ => g5 i b hi) pre) ?_
 rintro v w' ⟨F', S', hc⟩
 have keep : ∀ b, b < w.heap.size → ¬ Xc b → w'.heap[b]? = w.heap[b]? := hc.old
 let F'' : Nat → Prop := fun b => if lent ps = true then F b else F' b
 have FF : ∀ b, F b → F' b := fun b hb => hc.F0F b (.inl hb)
 have F1 : ∀ b, F b → F'' b := fun b hb => by
  simp only [F'']; split
  ·exact hb
  ·exact FF b hb
 have F2 : ∀ b, F'' b → F' b := fun b hb => by
  simp only [F''] at hb; split at hb
  ·exact FF b hb
  ·exact hb
 have F3 : ∀ b, F'' b → F b ∨ Xc b ∨ w.heap.size ≤ b := fun b hb => by
  simp only [F''] at hb; split at hb
  ·exact .inl hb
  ·rename_i hnl
   rcases hc.FF0 b hb with (hb | ⟨h1, _⟩) | hb | hb
   ·exact .inl hb
   ·exact (hnl h1).elim
   ·exact .inr (.inl hb)
   ·exact .inr (.inr hb)
 have mid : RelX w0 F0 X F'' S1 (takeL s ps) tm w' := by
  refine ⟨fun b hb => F1 b (g1.F0F b hb), ?_, fun b hb => hc.Flt b (F2 b hb), fun t b hb => Nat.lt_of_lt_of_le (g1.Slt t b hb) hc.size, ?_, g1.SS, g1.S0, ?_, ?_, Nat.le_trans g1.size hc.size, hc.os.trans g1.os, hc.tape.trans g1.tape, hc.output.trans g1.output⟩
  ·intro b hb
   rcases F3 b hb with hb | hb | hb
   ·exact g1.FF0 b hb
   ·rcases (X0 b hb).1 with h | h
    ·exact .inr (.inl h)
    ·exact .inr (.inr h)
   ·exact .inr (.inr (Nat.le_trans g1.size hb))
  ·intro t b ht hb
   rcases F3 b hb with hb | hb | hb
   ·exact g1.SF t b ht hb
   ·exact nX1 t b ht hb
   ·exact absurd (g1.Slt t b ht) (by omega)
  ·intro t
   exact SV.frame (Sx := S1) (fun b hb => keep b (h.Flt b hb) (nX b hb)) F1 (fun x b hb => keep b (g1.Slt x b hb) (nX1 x b hb)) g1.sv _ _ _ (fun b hb => keep b (g1.Slt t b hb) (nX1 t b hb)) (g1.sv t)
  ·intro b hb hX
   refine (keep b (Nat.lt_of_lt_of_le hb g1.size) fun hx => ?_).trans (g1.old b hb hX)
   rcases (X0 b hx).1 with h | h
   ·exact hX h
   ·omega
 have toF : ∀ (d : AV) (cs : List Value) (S0 : Nat → Prop), (lent ps = true → d.nosh = true) → RV w' F' d cs S0 → RV w' F'' d cs S0 := by
  intro d cs S0 hns hrv
  by_cases hle : lent ps = true
  ·exact RV.nosh d cs S0 (hns hle) hrv
  ·exact RV.mono (fun b hb => by simp only [F'']; rw [if_neg hle]; exact hb) _ _ _ _ (fun _ h => h) hrv
 have bound : ∀ i b, S' i b → b < w'.heap.size ∧ ¬ F'' b ∧ (X b ∨ w0.heap.size ≤ b) ∧ ∀ u, ¬ S1 u b := by
  intro i b hb
  refine ⟨hc.Slt i b hb, fun hF => hc.SF i b hb (F2 b hF), ?_, fun u hu => ?_⟩
  ·rcases hc.S0 i b hb with hx | hx
   ·exact (X0 b hx).1
   ·exact .inr (Nat.le_trans g1.size hx)
  ·rcases hc.S0 i b hb with hx | hx
   ·exact nX1 u b hu hx
   ·exact absurd (g1.Slt u b hu) (by omega)
 obtain ⟨S2, k1, k2⟩ := gives_ok ps vs (takeL s ps) S1 (fun i => S' (i + 1)) mid hl (by
  intro i p v' hp hv hg
  have hm : p ∈ ps := List.mem_of_getElem? hp
  have hk := hok p hm
  obtain ⟨x, q, a0, e1, e2, e3, e4, e5, e6, e7, e8⟩ := g3 i p v' hp hv hg
  simp only [PA.ok, hg, if_true, e1] at hk
  rcases hk.2.2 with ho | ho
  ·exact .inl ho
  ·obtain ⟨l1, l2, l3⟩ := like_spec hk.2.1 ho.1 ho.2
   refine .inr ⟨x, q, a0, p.d.hollow, e1, e2, ?_, e4, fun hq => l2 _ (e5 hq), e6, ho.1, ?_, l1.trans (AV.hollow_wd _).symm, l3⟩
   ·cases q with
    | nil => simpa only [fol] using e3
    | cons k q =>
      have ht := e6 (by simp)
      rw [fol_frame (k :: q) _ _ (S1 x) none _ ((SV.of_tree ht).1 (g1.sv x)).2 e2 (fun b hb => keep b (g1.Slt x b hb) (nX1 x b hb))]
      exact e3
   ·have := hc.sv (i + 1)
    have e9 : stL (r :: ps.map (·.o)) (i + 1) = p.o := by simp [stL, List.getD, hp]
    have e10 : tmL (v :: vs) (i + 1) = v' := by simp [tmL, List.getD, hv]
    rw [e9, e10] at this
    exact toF _ _ _ (fun hle => (hn hle).2 p hm) ((SV.of_tree (ow_spec ho.1).2.1).1 this).2)
  (fun i b hb => bound (i + 1) b hb) (fun i j b hne => hc.SS (i + 1) (j + 1) b (by omega)) hap
 refine ⟨F'', S2, k1, ?_, fun b hb => ⟨F1 b hb, keep b (h.Flt b hb) (nX b hb)⟩⟩
 have h0 := hc.sv 0
 have e9 : stL (r :: ps.map (·.o)) 0 = r := rfl
 have e10 : tmL (v :: vs) 0 = v := rfl
 rw [e9, e10] at h0
 cases ht : r.tree with
 | false =>
   cases r <;> first
    | (simp [AV.tree] at ht; done)
    | (simp [AV.res] at hr; done)
    | exact .inl ⟨rfl, by rw [SV]; trivial⟩
 | true =>
   obtain ⟨s1, s2⟩ := (SV.of_tree ht).1 h0
   have s3 := toF _ _ _ (fun hle => (hn hle).1) s2
   refine .inr ⟨ht, s1, S' 0, s3, fun b hb => (bound 0 b hb).1, fun b hb => (bound 0 b hb).2.1, fun u b hb hu => ?_, fun b hb => (bound 0 b hb).2.2.1⟩
   rcases k2 u b hu with hu | ⟨i, hi⟩
   ·exact (bound 0 b hb).2.2.2 u hu
   ·exact hc.SS 0 (i + 1) b (by omega) hb hi
theorem call_sound (h : RelX w0 F0 X F S s tm w) {ps : List PA} {vs : List Value} {f : FuncId} {r : AV} (hl : ps.length = vs.length)
  (hsv : ∀ (i : Nat) (p : PA) (v : Value), ps[i]? = some p → vs[i]? = some v → p.a.plain = true ∧ SV w F s tm p.a v (fun _ => False))
  (hok : ∀ p ∈ ps, p.ok s) (hap : apartPA ps = true) (hf : OkAt C f (ps.map (·.d)) r (ps.map (·.o))) (hr : r.res = true)
  (hn : lent ps = true → r.nosh = true ∧ ∀ p ∈ ps, p.o.nosh = true) :
  Gets C.P f vs.toArray w fun v w' => ∃ F' S', RelX w0 F0 X F' S' (giveL (takeL s ps) ps) tm w' ∧ Val w0 X F' S' (giveL (takeL s ps) ps) tm w' r v ∧ ∀ b, F b → F' b ∧ w'.heap[b]? = w.heap[b]? :=
 call_soundG h hl hsv hok hap (fun Fc Xc Sc _ _ hp => hf w Fc Xc Sc vs (by simp [hl]) hp) hr hn
end
structure RO where
 dst : Option Nat
 so : SO
 guard : Option (Nat × Bool)
def slimG (ops : Array Oper) : Option (Nat × Bool) → Option (Option (Nat × Bool))
 | none => some none
 | some (j, b) => match (ops[j]?).bind (·.dst) with
   | some t => some (some (t, b))
   | none => none
structure Fr where
 n : Nat
 fx : List Nat
def dstOk (n : Fr) : Option Nat → Bool
 | none => true
 | some t => decide (t < n.n) && !n.fx.contains t
def slimB (op : Op) : SO := match slimO op with
 | some so => so
 | none => .bad
def slimR (n : Fr) (ops : Array Oper) (o : Oper) : Option RO :=
 if dstOk n o.dst = true then match slimG ops o.guard with
  | some g => some ⟨o.dst, slimB o.op, g⟩
  | none => none
 else none
def slimRs (n : Fr) (ops : Array Oper) : List Oper → Option (List RO)
 | [] => some []
 | o :: os => match slimR n ops o, slimRs n ops os with
   | some r, some rs => some (r :: rs)
   | _, _ => none
def wpCall (C : Cx) (s : St) (f : SX) (args : List SX) (K : AV → St → Prop) : Prop :=
 ∃ (g : FuncId) (caps : List AV) (ps : List PA) (r : AV), ev s f = .fn g caps ∧ AV.plains caps = true ∧ ps.map (·.a) = args.map (ev s) ++ caps ∧ (∀ p ∈ ps, p.ok s) ∧ apartPA ps = true ∧
   OkAt C g (ps.map (·.d)) r (ps.map (·.o)) ∧ r.res = true ∧ (lent ps = true → r.nosh = true ∧ ∀ p ∈ ps, p.o.nosh = true) ∧ K r (giveL (takeL s ps) ps)
-- What stands in a slot is true behind a call, too.
mutual
def AV.kok (s : St) : AV → Bool
 | .h x q => q.isEmpty && (s x).own
 | .hb x _ => !(s x).plain
 | .hp _ _ => false
 | .hole => true
 | .fn _ cap => AV.koks s cap
 | d => d.plain
def AV.koks (s : St) : List AV → Bool
 | [] => true
 | d :: ds => d.kok s && AV.koks s ds
end
def putL (s : St) : List (Nat × AV) → St
 | [] => s
 | p :: L => putL (upd s p.1 p.2) L
def kokL (s : St) : List (Nat × AV) → Bool
 | [] => true
 | p :: L => p.2.kok s && kokL s L
def kaL (s : St) (us : List Nat) : List (Nat × AV) := us.map fun u => (u, s u)
def wpO (C : Cx) (s : St) (so : SO) (K : AV → St → Prop) : Prop :=
 match so with
 | .call f args => ∃ (g : FuncId) (caps : List AV) (ps : List PA) (r : AV), ev s f = .fn g caps ∧ AV.plains caps = true ∧ ps.map (·.a) = args.map (ev s) ++ caps ∧ (∀ p ∈ ps, p.ok s) ∧ apartPA ps = true ∧
   OkAt C g (ps.map (·.d)) r (ps.map (·.o)) ∧ r.res = true ∧ (lent ps = true → r.nosh = true ∧ ∀ p ∈ ps, p.o.nosh = true) ∧ K r (giveL (takeL s ps) ps)
 | .shr so => ∃ av s1, eff C s so = some (av, s1) ∧ av.tree = true ∧ (∀ vs, av ≠ .tuple vs) ∧ K av.share s1
 | .kc f args u x => s u = .h x [] ∧ (s x).own = true ∧ wpCall C s f args fun av s1 => s1 u = .hole ∧ (s1 x).own = true ∧ K av (upd s1 u (.h x []))
 | .ka f args us => kokL s (kaL s us) = true ∧ wpCall C s f args fun av s1 => kokL s1 (kaL s us) = true ∧ K av (putL s1 (kaL s us))
 | so => ∃ av s1, eff C s so = some (av, s1) ∧ K av s1
theorem wpO_mono {C : Cx} {s : St} {so : SO} {K K' : AV → St → Prop} (h : wpO C s so K) (hk : ∀ av s, K av s → K' av s) : wpO C s so K' := by
 cases so with
 | call f args =>
   obtain ⟨g, caps, ps, r, h1, hcp, h2, h3, h4, h5, h6, h7, h8⟩ := h
   exact ⟨g, caps, ps, r, h1, hcp, h2, h3, h4, h5, h6, h7, hk _ _ h8⟩
 | shr so =>
   obtain ⟨av, s1, h1, h2, h3, h4⟩ := h
   exact ⟨av, s1, h1, h2, h3, hk _ _ h4⟩
 | kc f args u x =>
   obtain ⟨k1, k2, g, caps, ps, r, h1, hcp, h2, h3, h4, h5, h6, h7, h8, h9, h10⟩ := h
   exact ⟨k1, k2, g, caps, ps, r, h1, hcp, h2, h3, h4, h5, h6, h7, h8, h9, hk _ _ h10⟩
 | ka f args us =>
   obtain ⟨k2, g, caps, ps, r, h1, hcp, h2, h3, h4, h5, h6, h7, h8, h9⟩ := h
   exact ⟨k2, g, caps, ps, r, h1, hcp, h2, h3, h4, h5, h6, h7, h8, hk _ _ h9⟩
 | _ =>
   obtain ⟨av, s1, h1, h2⟩ := h
   exact ⟨av, s1, h1, hk _ _ h2⟩
def wpR (C : Cx) (s : St) (o : RO) (K : St → Prop) : Prop :=
 match o.guard with
 | none => wpO C s o.so fun av s1 => K (fin s1 o.dst av)
 | some (t, b) => match s t with
   | .bool b' => if b' = b then wpO C s o.so (fun av s1 => K (fin s1 o.dst av)) else K (fin s o.dst (.tuple []))
   | .tuple [] => K (fin s o.dst (.tuple []))
   | _ => False
def wpRs (C : Cx) (s : St) : List RO → (St → Prop) → Prop
 | [], K => K s
 | o :: os, K => wpR C s o fun s1 => wpRs C s1 os K
def wpI (C : Cx) (ros : List RO) (s : St) : List Nat → (St → Prop) → Prop
 | [], K => K s
 | i :: l, K => match ros[i]? with
   | none => wpI C ros s l K
   | some o => wpR C s o fun s1 => wpI C ros s1 l K
theorem wpI_range (C : Cx) (K : St → Prop) : ∀ (rs pre : List RO) (s : St), wpRs C s rs K → wpI C (pre ++ rs) s ((List.range rs.length).map (· + pre.length)) K := by
 intro rs
 induction rs with
 | nil => intro pre s h; exact h
 | cons r rs ih =>
   intro pre s h
   rw [List.length_cons, List.range_succ_eq_map, List.map_cons, List.map_map]
   simp only [wpI, Nat.zero_add]
   rw [List.getElem?_append_right (Nat.le_refl _)]
   simp only [Nat.sub_self, List.getElem?_cons_zero]
   have key : ∀ s1, wpRs C s1 rs K → wpI C (pre ++ r :: rs) s1 ((List.range rs.length).map ((fun x => x + pre.length) ∘ Nat.succ)) K := by
    intro s1 h1
    have := ih (pre ++ [r]) s1 h1
    simp only [List.append_assoc, List.singleton_append, List.length_append, List.length_singleton] at this
    have e : ((fun x => x + pre.length) ∘ Nat.succ) = fun x => x + (pre.length + 1) := by funext x; simp; omega
    rw [e]; exact this
   simp only [wpRs] at h
   unfold wpR at h ⊢
   split
   ·rename_i hg; rw [hg] at h; exact wpO_mono h fun av s1 => key _
   ·rename_i t b hg
    rw [hg] at h
    simp only at h
    split
    ·rename_i b' hs
     rw [hs] at h
     simp only at h
     split
     ·rename_i hb; rw [if_pos hb] at h; exact wpO_mono h fun av s1 => key _
     ·rename_i hb; rw [if_neg hb] at h; exact key _ h
    ·rename_i hs; rw [hs] at h; exact key _ h
    ·rename_i h1 h2
     split at h
     ·exact h1 _ (by assumption)
     ·exact h2 (by assumption)
     ·exact h
structure Rel (w0 : World) (F0 X : Nat → Prop) (n : Fr) (ρ : Nat → Value) (s : St) (a : Act) (w : World) : Prop where
 defers : a.defers = []
 size : a.tmps.size = n.n
 fixed : ∀ i ∈ n.fx, a.tmps.getD i undef = ρ i
 rel : ∃ F S, RelX w0 F0 X F S s (fun t => a.tmps.getD t undef) w
section
variable {C : Cx} {w0 w : World} {F0 X : Nat → Prop} {n : Fr} {ρ : Nat → Value} {s s1 : St} {a : Act} {av : AV} {Q : Exit → Act → World → Prop}
theorem put_tm {dst : Option Nat} (v : Value) (hs : a.tmps.size = n.n) (hd : dstOk n dst = true) :
  (fun t => (a.put dst v).tmps.getD t undef) = finT (fun t => a.tmps.getD t undef) dst v ∧ (a.put dst v).tmps.size = n.n ∧ (a.put dst v).defers = a.defers := by
 cases dst with
 | none => exact ⟨rfl, hs, rfl⟩
 | some d =>
   simp only [dstOk, Bool.and_eq_true, decide_eq_true_eq] at hd
   refine ⟨?_, by simp [Act.put, hs], rfl⟩
   funext t
   simp only [Act.put, finT, upd, Array.getD_eq_getD_getElem?]
   by_cases h : t = d
   ·subst h
    rw [if_pos rfl, Array.getElem?_setIfInBounds_self_of_lt (by omega)]; rfl
   ·rw [if_neg h, Array.getElem?_setIfInBounds_ne (fun e => h e.symm)]
theorem Rel.put {F S} (hd : a.defers = []) (hs : a.tmps.size = n.n) (hf : ∀ i ∈ n.fx, a.tmps.getD i undef = ρ i) {w' : World} (hr : RelX w0 F0 X F S s (fun t => a.tmps.getD t undef) w') {v : Value} (hv : Val w0 X F S s (fun t => a.tmps.getD t undef) w' av v)
  {dst : Option Nat} (hok : dstOk n dst = true) : Rel w0 F0 X n ρ (fin s dst av) (a.put dst v) w' := by
 obtain ⟨e1, e2, e3⟩ := put_tm (n := n) (dst := dst) v hs hok
 obtain ⟨S', h'⟩ := hr.fin hv dst
 refine ⟨e3.trans hd, e2, fun i hi => ?_, F, S', by rw [e1]; exact h'⟩
 rw [congrFun e1 i]
 cases dst with
 | none => exact hf i hi
 | some d =>
   simp only [dstOk, Bool.and_eq_true, Bool.not_eq_true', List.contains_eq_mem, decide_eq_false_iff_not] at hok
   have hne : i ≠ d := fun e => hok.2 (by rw [← e]; exact hi)
   simp only [finT]
   rw [upd_ne _ _ hne]
   exact hf i hi
theorem Rel.skip (h : Rel w0 F0 X n ρ s a w) {dst : Option Nat} (hok : dstOk n dst = true) : Rel w0 F0 X n ρ (fin s dst (.tuple [])) (a.put dst undef) w := by
 obtain ⟨hd, hs, hf, F, S, hr⟩ := h
 refine Rel.put (av := .tuple []) hd hs hf hr (.inl ⟨rfl, (SV.of_tree (d := .tuple []) rfl).2 ⟨?_, ?_⟩⟩) hok
 ·exact ⟨#[], rfl, rfl, fun k d x hk => by simp at hk⟩
 ·rw [RV, RVs]; rfl
theorem svs_append {F : Nat → Prop} {tm : Nat → Value} {w : World} : ∀ {ds es : List AV} {vs us : List Value}, SVs w F s tm ds vs → SVs w F s tm es us → SVs w F s tm (ds ++ es) (vs ++ us) := by
 intro ds
 induction ds with
 | nil => intro es vs us h1 h2; rw [SVs] at h1; subst h1; exact h2
 | cons d ds ih =>
   intro es vs us h1 h2
   rw [SVs] at h1
   obtain ⟨v, vs', rfl, g1, g2⟩ := h1
   rw [List.cons_append, List.cons_append, SVs]
   exact ⟨v, _, rfl, g1, ih g2 h2⟩
theorem svs_get {F : Nat → Prop} {tm : Nat → Value} {w : World} : ∀ {ds : List AV} {vs : List Value}, SVs w F s tm ds vs → ds.length = vs.length ∧ ∀ (i : Nat) (d : AV) (v : Value), ds[i]? = some d → vs[i]? = some v → SV w F s tm d v (fun _ => False) := by
 intro ds
 induction ds with
 | nil => intro vs h; rw [SVs] at h; subst h; exact ⟨rfl, fun i d v h => by simp at h⟩
 | cons d ds ih =>
   intro vs h
   rw [SVs] at h
   obtain ⟨v, vs', rfl, g1, g2⟩ := h
   obtain ⟨k1, k2⟩ := ih g2
   refine ⟨by simp [k1], fun i d' v' hd hv => ?_⟩
   cases i with
   | zero => simp at hd hv; subst hd hv; exact g1
   | succ i => exact k2 i d' v' (by simpa using hd) (by simpa using hv)
theorem slimB_some {op : Op} {so : SO} (h : slimB op = so) : so = .bad ∨ slimO op = some so := by
 unfold slimB at h
 split at h
 ·subst h; right; assumption
 ·exact .inl h.symm
theorem slimO_noshr {op : Op} {so : SO} : slimO op ≠ some (.shr so) := by
 intro h
 unfold slimO at h
 split at h <;> (try split at h) <;> (try split at h) <;> (try split at h) <;> (try simp [Option.map_eq_some_iff] at h)
theorem slimO_nokc {op : Op} {f : SX} {args : List SX} {u x : Nat} : slimO op ≠ some (.kc f args u x) := by
 intro h
 unfold slimO at h
 split at h <;> (try split at h) <;> (try split at h) <;> (try split at h) <;> (try simp [Option.map_eq_some_iff] at h)
theorem slimO_noka {op : Op} {f : SX} {args : List SX} {us : List Nat} : slimO op ≠ some (.ka f args us) := by
 intro h
 unfold slimO at h
 split at h <;> (try split at h) <;> (try split at h) <;> (try split at h) <;> (try simp [Option.map_eq_some_iff] at h)
theorem slimO_nobxs {op : Op} {T : TypeId} {x : SX} : slimO op ≠ some (.bxs T x) := by
 intro h
 unfold slimO at h
 split at h <;> (try split at h) <;> (try split at h) <;> (try split at h) <;> (try simp [Option.map_eq_some_iff] at h)
theorem slimO_noapz {op : Op} {T U : TypeId} {x y : SX} : slimO op ≠ some (.apz T U x y) := by
 intro h
 unfold slimO at h
 split at h <;> (try split at h) <;> (try split at h) <;> (try split at h) <;> (try simp [Option.map_eq_some_iff] at h)
theorem slimO_app {op : Op} {T U : TypeId} {x y : SX} (h : slimO op = some (.app T U x y)) : ∃ a b, op = .call ⟨.builtin .append, #[a, b], #[T, U]⟩ ∧ slimX a = some x ∧ slimX b = some y := by
 cases op with
 | call c =>
   obtain ⟨callee, args, argTypes⟩ := c
   simp only [slimO] at h
   split at h
   ·split at h <;> simp at h
   ·split at h <;> simp at h
   ·split at h <;> simp at h
   ·(split at h <;> try split at h) <;> simp at h
   ·(split at h <;> try split at h) <;> simp at h
   ·split at h
    ·rename_i a b T' U' hargs htys
     split at h
     ·rename_i x' y' hx hy
      simp only [Option.some.injEq, SO.app.injEq] at h
      obtain ⟨rfl, rfl, rfl, rfl⟩ := h
      refine ⟨a, b, ?_, hx, hy⟩
      have e1 : args = #[a, b] := by apply Array.ext'; exact hargs
      have e2 : argTypes = #[T', U'] := by apply Array.ext'; exact htys
      subst e1 e2
      rfl
     ·cases h
    ·cases h
   ·cases h
 | makeFunc fn first cs =>
   cases fn <;> simp only [slimO] at h <;> first | (cases h; done) | (split at h <;> simp at h)
 | slice T x lo hi mx =>
   cases mx <;> simp only [slimO] at h <;> first | (cases h; done) | (split at h <;> simp at h)
 | _ => simp only [slimO] at h <;> first | (cases h; done) | (simp at h; done) | (split at h <;> simp at h)
theorem RelX.alias {F : Nat → Prop} {S : Nat → Nat → Prop} {tm : Nat → Value} {u x : Nat} (h : RelX w0 F0 X F S s tm w) (hu : s u = .hole) (hx : (s x).own = true) (hv : vc (tm u) = vc (tm x)) (h1 : Value.isOne (tm u) = true) :
  RelX w0 F0 X F (updS S u (fun _ => False)) (upd s u (.h x [])) tm w := by
 have htm : upd tm u (tm u) = tm := by funext y; simp only [upd]; split <;> simp_all
 have := h.setP (t := u) (d := .h x []) (v := tm u) rfl (by
  rw [SV]
  intro d hd hp
  simp only [AV.sub, Option.some.injEq] at hd
  subst hd
  exact ⟨vc (tm x), none, rfl, hv, ((own_spec hx).2.2.2.2.2 _).2 h1⟩)
 rwa [htm] at this
theorem Val.less {F : Nat → Prop} {S S' : Nat → Nat → Prop} {tm : Nat → Value} {s1 : St} {v : Value} (hS : ∀ u b, S' u b → S u b) (hr : av.res = true) (h : Val w0 X F S s tm w av v) : Val w0 X F S' s1 tm w av v := by
 rcases h with ⟨h1, h2⟩ | ⟨h1, h2, Sn, h3, h4, h5, h6, h7⟩
 ·refine .inl ⟨h1, ?_⟩
  cases av <;> first
   | (simp [AV.res] at hr; done)
   | (rw [SV]; trivial)
   | (rw [SV] at h2 ⊢; exact h2)
 ·exact .inr ⟨h1, h2, Sn, h3, h4, h5, fun u b hb hu => h6 u b hb (hS u b hu), h7⟩
theorem op_call (hC : C.Ok) (h : Rel w0 F0 X n ρ s a w) {o : Oper} {f : SX} {args : List SX} (hso : slimO o.op = some (.call f args)) (hd : dstOk n o.dst = true) {K : AV → St → Prop} {L : St → Prop} {next : Act → World → Prop}
  (hw : wpCall C s f args K) (hL : ∀ F S F' S' w w' av s1 v, RelX w0 F0 X F S s (fun t => a.tmps.getD t undef) w → K av s1 → av.res = true → RelX w0 F0 X F' S' s1 (fun t => a.tmps.getD t undef) w' → Val w0 X F' S' s1 (fun t => a.tmps.getD t undef) w' av v → (∀ b, F b → F' b ∧ w'.heap[b]? = w.heap[b]?) →
   ∃ s2 S2, L (fin s2 o.dst av) ∧ RelX w0 F0 X F' S2 s2 (fun t => a.tmps.getD t undef) w' ∧ Val w0 X F' S2 s2 (fun t => a.tmps.getD t undef) w' av v)
  (hn : ∀ s' a' w', L s' → Rel w0 F0 X n ρ s' a' w' → next a' w') : o.wp C.P a w next Q := by
 have hrel := h
 obtain ⟨hde, hsz, hfx, F, S, hr⟩ := h
 obtain ⟨g, caps, ps, r, h1, hcp, h2, h3, h4, h5, h6, h7, h8⟩ := hw
 obtain ⟨dst, op, ty, pos, after, guard⟩ := o
 simp only at hso hd hL
 cases op with
 | call c =>
   obtain ⟨callee, cargs, argTypes⟩ := c
   simp only [slimO] at hso
   split at hso
   ·split at hso
    ·rename_i fo _ _ f' xs hf hxs
     simp only [Option.some.injEq, SO.call.injEq] at hso
     obtain ⟨rfl, rfl⟩ := hso
     obtain ⟨f1, f2⟩ := ev_sv hr (fun _ => rfl) hf
     rw [h1, SV] at f2
     obtain ⟨arr, f3, f4⟩ := f2
     have hexec : execOp a.eval { dst, op := .call { callee := .value fo, args := cargs, argTypes }, type := ty, pos, after, guard } = callFunc g ((cargs.toList.map a.eval ++ arr.toList).toArray) := by
      have : a.eval fo = .func (.func g) #[] arr := f3
      simp only [execOp, resolve, this, Deferred.ofValue, pure_bind, invoke]
      congr 1
      apply Array.ext'; simp
     unfold Oper.wp
     rw [hexec]
     have hsvs : SVs w F s (fun t => a.tmps.getD t undef) (xs.map (ev s) ++ caps) (cargs.toList.map a.eval ++ arr.toList) := svs_append (svs_map hr (fun _ => rfl) _ _ (slimXs_map hxs)) f4
     rw [← h2] at hsvs
     obtain ⟨l1, l2⟩ := svs_get hsvs
     have hpl : ∀ d ∈ xs.map (ev s) ++ caps, d.plain = true := by
      intro d hd
      rcases List.mem_append.1 hd with hd | hd
      ·obtain ⟨x, hx, rfl⟩ := List.mem_map.1 hd
       exact ev_plain s x fun av e => by
        subst e
        have hm := slimXs_map hxs
        have : some (SX.c av) ∈ xs.map some := List.mem_map.2 ⟨_, hx, rfl⟩
        rw [← hm] at this
        obtain ⟨o, _, ho⟩ := List.mem_map.1 this
        cases o with
        | const v => simp only [slimX, Option.map_eq_some_iff] at ho; obtain ⟨c, hc, e⟩ := ho; cases e; exact cav_plain hc
        | tmp n => simp [slimX] at ho
        | func g => simp [slimX] at ho
        | global g => simp [slimX] at ho
      ·obtain ⟨k, hk⟩ := List.getElem?_of_mem hd
       exact plains_get hcp hk
     have hcall := call_sound (C := C) hr (ps := ps) (vs := cargs.toList.map a.eval ++ arr.toList) (f := g) (r := r) (by simpa using l1)
      (fun i p v hp hv => ⟨hpl p.a (by rw [← h2]; exact List.mem_map.2 ⟨p, List.mem_of_getElem? hp, rfl⟩), l2 i p.a v (by simp [hp]) hv⟩) h3 h4 h5 h6 h7
     rcases hcall with ⟨r1, r2⟩ | ⟨v, w', r1, F', S', r2, r3, r4⟩
     ·rw [r1, Oper.upon_enter]
      refine Calls.mono r2 ?_
      rintro e w' ⟨v, rfl, F', S', k1, k2, k3⟩
      obtain ⟨s2, S2, m1, m2, m3⟩ := hL _ _ _ _ _ _ _ _ _ hr h8 h6 k1 k2 k3
      exact hn _ _ _ m1 (Rel.put hde hsz hfx m2 m3 hd)
     ·rw [r1, Oper.upon_value]
      obtain ⟨s2, S2, m1, m2, m3⟩ := hL _ _ _ _ _ _ _ _ _ hr h8 h6 r2 r3 r4
      exact hn _ _ _ m1 (Rel.put hde hsz hfx m2 m3 hd)
    ·cases hso
   ·split at hso
    ·simp only [Option.map_eq_some_iff] at hso; obtain ⟨_, _, hso⟩ := hso; cases hso
    ·cases hso
   ·split at hso
    ·simp only [Option.map_eq_some_iff] at hso; obtain ⟨_, _, hso⟩ := hso; cases hso
    ·cases hso
   iterate 3
    ·split at hso
     ·split at hso <;> cases hso
     ·cases hso
   ·cases hso
 | makeFunc fn first cs =>
   cases fn <;> simp only [slimO] at hso <;> first | (cases hso; done) | (split at hso <;> simp at hso)
 | slice T x lo hi mx =>
   cases mx <;> simp only [slimO] at hso <;> first | (cases hso; done) | (split at hso <;> simp at hso)
 | _ => simp only [slimO] at hso <;> first | (cases hso; done) | (simp at hso; done) | (split at hso <;> simp at hso)
theorem op_sound0 (hC : C.Ok) (h : Rel w0 F0 X n ρ s a w) {o : Oper} {so : SO} (hso : slimO o.op = some so) (hd : dstOk n o.dst = true) {K : St → Prop} {next : Act → World → Prop}
  (hw : wpO C s so fun av s1 => K (fin s1 o.dst av)) (hn : ∀ s' a' w', K s' → Rel w0 F0 X n ρ s' a' w' → next a' w') : o.wp C.P a w next Q := by
 have hrel := h
 obtain ⟨hde, hsz, hfx, F, S, hr⟩ := h
 have plain : ∀ av s1, eff C s so = some (av, s1) → K (fin s1 o.dst av) → o.wp C.P a w next Q := by
  intro av s1 he hk
  obtain ⟨r, w', v, F', S', h1, h2, h3, h4⟩ := eff_sound (a := a) hC hr (fun _ => rfl) hso he
  unfold Oper.wp
  rw [h1]
  rcases h2 with rfl | ⟨rfl, rfl⟩
  ·exact hn _ _ _ hk (Rel.put hde hsz hfx h3 h4 hd)
  ·exact hn _ _ _ hk (Rel.put hde hsz hfx h3 h4 hd)
 cases so with
 | shr so => exact (slimO_noshr hso).elim
 | apz T U x y => exact (slimO_noapz hso).elim
 | call f args => exact op_call hC ⟨hde, hsz, hfx, F, S, hr⟩ hso hd (K := fun av s1 => K (fin s1 o.dst av)) hw (fun _ _ _ S' _ _ _ s1 _ _ h2 _ h3 h4 _ => ⟨s1, S', h2, h3, h4⟩) hn
 | kc f args u x => exact (slimO_nokc hso).elim
 | ka f args L => exact (slimO_noka hso).elim
 | bxs T x => exact (slimO_nobxs hso).elim
 | _ =>
   obtain ⟨av, s1, he, hk⟩ := hw
   exact plain av s1 he hk
theorem Val.share {F : Nat → Prop} {S : Nat → Nat → Prop} {tm : Nat → Value} {v : Value} (h : RelX w0 F0 X F S s tm w) (hv : Val w0 X F S s tm w av v) (ht : av.tree = true) (hn : ∀ vs, av ≠ .tuple vs) :
  ∃ F', RelX w0 F0 X F' S s tm w ∧ Val w0 X F' S s tm w av.share v := by
 obtain ⟨Sn, q1, q2, q3, q4, q5, q6⟩ : ∃ Sn : Nat → Prop, shp av v ∧ RV w F av (vc v) Sn ∧ (∀ b, Sn b → b < w.heap.size) ∧ (∀ b, Sn b → ¬ F b) ∧ (∀ u b, Sn b → ¬ S u b) ∧ (∀ b, Sn b → X b ∨ w0.heap.size ≤ b) := by
  rcases hv with ⟨h1, h2⟩ | ⟨_, h2, Sn, h3, h4, h5, h6, h7⟩
  ·rw [SV.of_tree ht] at h2
   exact ⟨fun _ => False, h2.1, h2.2, fun _ h => h.elim, fun _ h => h.elim, fun _ _ h => h.elim, fun _ h => h.elim⟩
  ·exact ⟨Sn, h2, h3, h4, h5, h6, h7⟩
 refine ⟨fun b => F b ∨ Sn b, ?_, .inl ⟨share_plain av, ?_⟩⟩
 ·exact {
   F0F := fun b hb => .inl (h.F0F b hb)
   FF0 := fun b hb => by
    rcases hb with hb | hb
    ·exact h.FF0 b hb
    ·exact .inr (q6 b hb)
   Flt := fun b hb => hb.elim (h.Flt b) (q3 b)
   Slt := h.Slt
   SF := fun t b hb hf => hf.elim (h.SF t b hb) (fun hs => q5 t b hs hb)
   SS := h.SS
   S0 := h.S0
   sv := fun t => SV.frame (fun _ _ => rfl) (fun b hb => .inl hb) (fun _ _ _ => rfl) h.sv _ _ _ (fun _ _ => rfl) (h.sv t)
   old := h.old
   size := h.size
   os := h.os
   tape := h.tape
   output := h.output }
 ·have ht2 : av.share.tree = true := by cases av <;> first | exact ht | rfl
  rw [SV.of_tree ht2]
  exact ⟨shp_share hn q1, RV.shared (fun b hb => .inl hb) av _ Sn (fun b hb => .inr hb) q2⟩
theorem slimO_bx {op : Op} {T : TypeId} {x : SX} (h : slimO op = some (.bx T x)) : ∃ a, op = .box T a ∧ slimX a = some x := by
 cases op with
 | box T' a =>
   simp only [slimO, Option.map_eq_some_iff, SO.bx.injEq] at h
   obtain ⟨y, hy, rfl, rfl⟩ := h
   exact ⟨a, rfl, hy⟩
 | _ =>
   exfalso
   unfold slimO at h
   split at h <;> (try split at h) <;> (try split at h) <;> (try split at h) <;> (try simp [Option.map_eq_some_iff] at h) <;> contradiction
theorem kok_sv {w' : World} {F F' : Nat → Prop} {s s1 : St} {tm : Nat → Value} (hF : ∀ b, F b → F' b ∧ w'.heap[b]? = w.heap[b]?) : ∀ (n : Nat),
  (∀ (d : AV) (v : Value) (S : Nat → Prop), SizeOf.sizeOf d ≤ n → d.kok s = true → d.kok s1 = true → SV w F s tm d v S → SV w' F' s1 tm d v (fun _ => False)) ∧
  (∀ (ds : List AV) (vs : List Value), SizeOf.sizeOf ds ≤ n → AV.koks s ds = true → AV.koks s1 ds = true → SVs w F s tm ds vs → SVs w' F' s1 tm ds vs) := by
 intro n
 induction n with
 | zero =>
   refine ⟨fun d v S hz => ?_, fun ds vs hz => ?_⟩
   ·cases d <;> simp at hz <;> omega
   ·cases ds <;> simp at hz <;> omega
 | succ n ih =>
   refine ⟨fun d v S hz k1 k2 h => ?_, fun ds vs hz k1 k2 h => ?_⟩
   ·cases d with
    | hole => rw [SV]; trivial
    | h x q =>
      simp only [AV.kok, Bool.and_eq_true, List.isEmpty_iff] at k1 k2
      obtain ⟨rfl, k1⟩ := k1
      rw [SV] at h ⊢
      obtain ⟨dcs, a, p1, p2, p3⟩ := h (s x) (by simp only [AV.sub]) (own_spec k1).1
      simp only [fol, Option.some.injEq, Prod.mk.injEq, true_and] at p1
      intro d hd _
      simp only [AV.sub, Option.some.injEq] at hd
      subst hd
      exact ⟨vc (tm x), none, by simp only [fol], by rw [p2, ← p1.1], ((own_spec k2.2).2.2.2.2.2 _).2 (((own_spec k1).2.2.2.2.2 _).1 p3)⟩
    | hp x q => simp [AV.kok] at k1
    | hb x k =>
      simp only [AV.kok, Bool.not_eq_true'] at k1
      rw [SV] at h ⊢
      obtain ⟨b, cur, e, fr, h1, h2, h3, h4⟩ := h k1
      exact fun _ => ⟨b, cur, e, fr, h1, (hF b h2).1, (hF b h2).2.trans h3, h4⟩
    | fn f cap =>
      simp only [AV.kok] at k1 k2
      rw [SV] at h ⊢
      obtain ⟨arr, rfl, hc⟩ := h
      exact ⟨arr, rfl, ih.2 _ _ (by simp at hz; omega) k1 k2 hc⟩
    | _ =>
      simp only [AV.kok] at k1
      have h' := (SV.of_tree rfl).1 h
      exact (SV.of_tree rfl).2 ⟨h'.1, RV.mono (fun b hb => (hF b hb).1) _ _ _ _ (fun _ h => h) (RV.frame (fun b hb => (hF b hb).2) _ _ _ (fun _ h => h.elim) (RV.plain _ _ _ _ k1 h'.2))⟩
   ·cases ds with
    | nil => rw [SVs] at h ⊢; exact h
    | cons d ds =>
      simp only [AV.koks, Bool.and_eq_true] at k1 k2
      rw [SVs] at h ⊢
      obtain ⟨v, vs', rfl, h1, h2⟩ := h
      simp at hz
      exact ⟨v, vs', rfl, ih.1 _ _ _ (by omega) k1.1 k2.1 h1, ih.2 _ _ (by omega) k1.2 k2.2 h2⟩
theorem kok_plain {s : St} {d : AV} (h : d.kok s = true) : d.plain = true := by
 cases d <;> first | rfl | (simpa [AV.kok] using h)
theorem RelX.putL {F : Nat → Prop} {tm : Nat → Value} : ∀ (L : List (Nat × AV)) (s : St) (S : Nat → Nat → Prop), RelX w0 F0 X F S s tm w → (∀ p ∈ L, p.2.plain = true ∧ SV w F s tm p.2 (tm p.1) (fun _ => False)) →
  ∃ S', RelX w0 F0 X F S' (Fw.putL s L) tm w ∧ ∀ u b, S' u b → S u b := by
 intro L
 induction L with
 | nil => intro s S h _; exact ⟨S, h, fun _ _ h => h⟩
 | cons p L ih =>
   intro s S h hL
   obtain ⟨h1, h2⟩ := hL p (by simp)
   have htm : upd tm p.1 (tm p.1) = tm := by funext u; simp only [upd]; split <;> simp_all
   have h3 := h.setP (t := p.1) h1 h2
   rw [htm] at h3
   have hB : ∀ x, x ≠ p.1 → (upd s p.1 p.2 x).tree = true → upd s p.1 p.2 x = s x ∧ tm x = tm x := fun x hx _ => ⟨upd_ne _ _ hx, rfl⟩
   obtain ⟨S', g1, g2⟩ := ih _ _ h3 (fun q hq => ⟨(hL q (by simp [hq])).1, (SV.void (t := p.1) hB (by rw [upd_same]; exact h1) _).1 _ _ _ (Nat.le_refl _) (hL q (by simp [hq])).2⟩)
   refine ⟨S', g1, fun u b hb => ?_⟩
   have := g2 u b hb
   simp only [updS] at this
   split at this
   ·exact this.elim
   ·exact this
theorem kokL_mem {s : St} : ∀ {L : List (Nat × AV)}, kokL s L = true → ∀ p ∈ L, p.2.kok s = true
 | q :: L, h1, p, hp => by
   simp only [kokL, Bool.and_eq_true] at h1
   rcases List.mem_cons.1 hp with rfl | hp
   ·exact h1.1
   ·exact kokL_mem h1.2 p hp
theorem kaL_at {s : St} {us : List Nat} {p : Nat × AV} (h : p ∈ kaL s us) : p.1 ∈ us ∧ s p.1 = p.2 := by
 obtain ⟨u, hu, rfl⟩ := List.mem_map.1 h
 exact ⟨hu, rfl⟩
theorem op_sound (hC : C.Ok) (h : Rel w0 F0 X n ρ s a w) {o : Oper} {so : SO} (hso : slimB o.op = so.base) (hd : dstOk n o.dst = true) {K : St → Prop} {next : Act → World → Prop}
  (hw : wpO C s so fun av s1 => K (fin s1 o.dst av)) (hn : ∀ s' a' w', K s' → Rel w0 F0 X n ρ s' a' w' → next a' w') : o.wp C.P a w next Q := by
 cases so with
 | shr so =>
   obtain ⟨av, s1, he, ht, hnt, hk⟩ := hw
   rcases slimB_some hso with hso | hso
   ·change so = .bad at hso
    subst hso; cases he
   obtain ⟨hde, hsz, hfx, F, S, hr⟩ := h
   obtain ⟨r, w', v, F', S', h1, h2, h3, h4⟩ := eff_sound (a := a) hC hr (fun _ => rfl) hso he
   obtain ⟨F2, g3, g4⟩ := Val.share h3 h4 ht hnt
   unfold Oper.wp
   rw [h1]
   rcases h2 with rfl | ⟨rfl, rfl⟩
   ·exact hn _ _ _ hk (Rel.put hde hsz hfx g3 g4 hd)
   ·exact hn _ _ _ hk (Rel.put hde hsz hfx g3 g4 hd)
 | bad => obtain ⟨av, s1, he, _⟩ := hw; cases he
 | kc f args u x =>
   obtain ⟨e1, e2, hw⟩ := hw
   rcases slimB_some hso with hb | hb
   ·cases hb
   ·refine op_call hC h hb hd hw ?_ hn
    rintro F S F' S' w w' av s1 v q1 ⟨q2, q3, q4⟩ q5 q6 q7 _
    have hux := q1.sv u
    rw [e1, SV] at hux
    obtain ⟨dcs, a0, p1, p2, p3⟩ := hux (s x) (by simp only [AV.sub]) (own_spec e2).1
    simp only [fol, Option.some.injEq, Prod.mk.injEq, true_and] at p1
    have hless : ∀ y b, updS S' u (fun _ => False) y b → S' y b := by
     intro y b hb
     simp only [updS] at hb
     split at hb
     ·exact hb.elim
     ·exact hb
    exact ⟨_, _, q4, q6.alias q2 q3 (by rw [p2, ← p1.1]) (((own_spec e2).2.2.2.2.2 _).1 p3), q7.less hless q5⟩
 | ka f args L =>
   obtain ⟨e2, hw⟩ := hw
   rcases slimB_some hso with hb | hb
   ·cases hb
   ·refine op_call hC h hb hd hw ?_ hn
    rintro F S F' S' w w' av s1 v q1 ⟨q2, q4⟩ q5 q6 q7 q8
    obtain ⟨S2, g1, g2⟩ := q6.putL (kaL s L) s1 S' (fun p hp => by
     have r1 := (kaL_at hp).2
     have r2 := kokL_mem e2 p hp
     have r3 := kokL_mem q2 p hp
     refine ⟨kok_plain r2, (kok_sv q8 _).1 _ _ (S p.1) (Nat.le_refl _) r2 r3 ?_⟩
     have := q1.sv p.1
     rw [r1] at this
     exact this)
    exact ⟨_, S2, q4, g1, q7.less g2 q5⟩
 | bxs T x =>
   obtain ⟨av, s1, he, hk⟩ := hw
   rcases slimB_some hso with hb | hb
   ·cases hb
   ·obtain ⟨x', hop, hx⟩ := slimO_bx hb
    obtain ⟨hde, hsz, hfx, F, S, hr⟩ := h
    obtain ⟨dst, op, ty, pos, after, guard⟩ := o
    simp only at hop hd hk
    subst hop
    obtain ⟨r, w', v, F', S', h1, h2, h3, h4⟩ : Next C w0 F0 X (fun t => a.tmps.getD t undef) w (execOp a.eval ⟨dst, .box T x', ty, pos, after, guard⟩) av s1 := (bxs_good (T := T) hr (ev_sv hr (fun _ => rfl) hx).2 he).next
    unfold Oper.wp
    rw [h1]
    rcases h2 with rfl | ⟨rfl, rfl⟩
    ·exact hn _ _ _ hk (Rel.put hde hsz hfx h3 h4 hd)
    ·exact hn _ _ _ hk (Rel.put hde hsz hfx h3 h4 hd)
 | apz T U x y =>
   obtain ⟨av, s1, he, hk⟩ := hw
   rcases slimB_some hso with hb | hb
   ·cases hb
   ·obtain ⟨x', y', hop, hx, hy⟩ := slimO_app hb
    obtain ⟨hde, hsz, hfx, F, S, hr⟩ := h
    simp only [eff, Option.map_eq_some_iff, Prod.mk.injEq] at he
    obtain ⟨d, hd', rfl, rfl⟩ := he
    obtain ⟨v, w', F', S', h1, h2, h3⟩ := apz_good (ty := o.type) hC hr (ev_sv hr (fun _ => rfl) hx).2 (ev_sv hr (fun _ => rfl) hy).2 hd'
    have hexec : execOp a.eval o = (do pure (.value (← Builtin.append_ #[T, U] o.type #[a.eval x', a.eval y']))) := by
     obtain ⟨dst, op, ty, pos, after, guard⟩ := o
     simp only at hop
     subst hop
     simp [execOp, resolve, invoke, builtin]
    unfold Oper.wp
    rw [hexec]
    simp only [Sem.run_bind, h1, Result.andThen]
    exact hn _ _ _ hk (Rel.put hde hsz hfx h2 h3 hd)
 | _ =>
   rcases slimB_some hso with hb | hb
   ·cases hb
   ·exact op_sound0 hC h hb hd hw hn
end
end Go.Fw
