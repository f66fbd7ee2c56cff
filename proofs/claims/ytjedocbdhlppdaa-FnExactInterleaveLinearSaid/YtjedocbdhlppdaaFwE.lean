/- Part of a proof that a law returns true for every input. No condition. -/
import Derived.Test.YtjedocbdhlppdaaFwD
import Derived.Laws.Tables
namespace Go.dp
section
variable {C : b1} {w0 w : World} {F0 X F : Nat → Prop} {S : Nat → Nat → Prop} {s s1 : ao} {aE : Nat → Value} {av : j}
theorem xc (z : List Value) : ∀ n, (List.range (n * z.length)).map (fun i => z[i % z.length]!) = (List.replicate n z).flatten
 | 0 => by simp
 | n + 1 => by
   rw [Nat.add_mul, Nat.one_mul, List.range_add, List.map_append, xc z n, List.replicate_succ', List.flatten_append]
   congr 1
   simp only [List.map_map, List.flatten_cons, List.flatten_nil, List.append_nil]
   apply List.ext_getElem
   ·simp
   ·intro i ag ah
    have au : i < z.length := ah
    simp [Nat.mod_eq_of_lt au, au]
theorem ba.replicate {d : j} {cs : List Value} (h : ∀ aU, ax w F d cs aU) : ∀ n aU, ba w F (List.replicate n d) (List.replicate n cs).flatten aU
 | 0, aU => by simp only [List.replicate_zero, List.flatten_nil]; rw [ba]
 | n + 1, aU => by
   rw [List.replicate_succ, List.replicate_succ, List.flatten_cons, ba]
   exact ⟨cs, _, fun _ => False, fun _ => False, rfl, h _, ba.replicate h n _, fun _ h => h.elim, fun _ h => h.elim, fun _ h => h.elim⟩
def fE (C : b1) (T : TypeId) (l c : j) : Option j :=
 match (C.T T).k, l, c with
 | .slice e, .int .i64 n, .int .i64 m => if n = m ∧ 0 ≤ n ∧ (C.T e).ok = true ∧ (C.T e).zero.wd = (C.T e).sz ∧ (flat (C.T e).zero).isSome = true ∧ (C.T e).sz ≠ 0 ∧ (C.T e).bytes * n ≤ 140737488355328 ∧ n ≤ 9223372036854775807 then
   some (.ai (C.T e).sz (List.replicate n.toNat (C.T e).zero)) else none
 | _, _, _ => none
theorem LZ (bt : C.eO) (h : bU w0 F0 X F S s aE w) {T : TypeId} {l c : j} {Er Es : Value} (hl : aL w F s aE l Er (fun _ => False)) (az : aL w F s aE c Es (fun _ => False)) (he : fE C T l c = some av) :
  Good C w0 F0 X aE w (Instr.makeSlice T Er Es) av s := by
 unfold fE at he
 split at he
 ·rename_i e n m aB
  have := oC hl; subst this
  have := oC az; subst this
  obtain ⟨AG, d, AH, a1, bg, bf, cn, c3, b_, bV⟩ := bt.info (fL aB (by simp))
  rw [aB] at bV
  have := kr bV; subst this
  split at he
  ·rename_i qF
   obtain ⟨rfl, bh, nf, n0, oG, ef, Et, uj⟩ := qF
   simp only [Option.some.injEq] at he; subst he
   obtain ⟨i, AJ, z, f1, f2, f3, f4, f5, f6, f7⟩ := bt.info nf
   obtain ⟨eQ, lL⟩ := Option.isSome_iff_exists.1 oG
   have oH := f5 eQ lL
   have hr : ∀ aU, ax w F (C.T e).zero eQ aU := fun aU => (ax.flat _).1 _ eQ aU (Nat.le_refl _) lL
   have nh : eQ.length = (C.T e).sz := by rw [ax.length _ _ _ (hr (fun _ => False)), n0]
   obtain ⟨n, rfl⟩ := Int.eq_ofNat_of_zero_le bh
   simp only [Int.toNat_natCast]
   have sl : IntKind.i64.wrap (n : Int) = n := by
    rw [IntKind.wrap_i64]; omega
   have sj : ∀ k (w : World), (askRoom k).run C.P w = .ok () w := by
    intro k w
    unfold askRoom
    split <;> rfl
   have nb : ((Array.range (n * (C.T e).sz)).map (eQ.toArray[· % eQ.toArray.size]!)).toList = (List.replicate n eQ).flatten := by
    have := xc eQ n
    rw [nh] at this
    simpa [nh] using this
   have eC : ¬ (281474976710656 < (i.bytes : Int) * n) := by
    rw [f3]; omega
   have xd : ¬ ((n : Int) < 0) := by omega
   have run : (Instr.makeSlice T (.int .i64 n) (.int .i64 n)).run C.P w = .ok (.slice (some ⟨w.heap.size, 0, none⟩) n n)
     (w.alloc (.cells (if n * (C.T e).sz = 0 then (Array.range (n * (C.T e).sz)).map (fun _ => default) else (Array.range (n * (C.T e).sz)).map (eQ.toArray[· % eQ.toArray.size]!)) e)) := by
    by_cases bM : n * (C.T e).sz = 0
    ·simp [Instr.makeSlice, run_underlying b_, asInt, asIntOf, qC f1, sl, eC, xd, sj, jG f1, f2, bM, newRow]
    ·simp only [bM, if_false]
     simp [Instr.makeSlice, run_underlying b_, asInt, asIntOf, qC f1, sl, eC, xd, sj, jG f1, f2, bM, newRow, tT f1 f4, oH]
   have km : (if n * (C.T e).sz = 0 then (Array.range (n * (C.T e).sz)).map (fun _ => (default : Value)) else (Array.range (n * (C.T e).sz)).map (eQ.toArray[· % eQ.toArray.size]!)).toList = (List.replicate n eQ).flatten := by
    split
    ·rename_i bM
     have : n = 0 := by
      rcases Nat.mul_eq_zero.1 bM with h | h
      ·exact h
      ·exact (ef h).elim
     subst this
     simp
    ·exact nb
   generalize qR : (if n * (C.T e).sz = 0 then (Array.range (n * (C.T e).sz)).map (fun _ => (default : Value)) else (Array.range (n * (C.T e).sz)).map (eQ.toArray[· % eQ.toArray.size]!)) = cur at run km
   have iI : (List.replicate n eQ).flatten.length = n * (C.T e).sz := by simp [nh]
   have iJ : cur.size = n * (C.T e).sz := by
    have : cur.size = cur.toList.length := by simp
    rw [this, km, iI]
   have j6 := h.ud (aS := w.alloc (.cells cur e)) (sz := (C.T e).sz) (cap := n) (xs := List.replicate n (C.T e).zero) (cur := cur) (e := e) (fr := (0, 0)) (Sn := fun _ => False) rfl rfl rfl rfl
    (fun o _ ⟨_, ah⟩ => absurd ah (Nat.not_lt_zero _)) (by simp) (by unfold maxLen; omega) iJ (by intro d ak; rw [List.eq_of_mem_replicate ak]; exact n0)
    (by rw [km, List.length_replicate, List.take_of_length_le (by rw [iI]; exact Nat.le_refl _)]; exact ba.replicate hr n _) (fun _ h => h.elim) (fun _ h => h.elim) (fun _ _ h => h.elim) (fun _ h => h.elim)
   rw [List.length_replicate] at j6
   exact ⟨_, _, F, S, run, j6.1, j6.2⟩
  ·cases he
 ·cases he
def ic (C : b1) (T bJ : TypeId) (x y : j) : Option j :=
 match (C.T T).k, (C.T bJ).k, x, y with
 | .slice e, .int _, .af, .int .i64 n => if 0 ≤ n ∧ (C.T e).ok = true ∧ (C.T e).zero.wd = (C.T e).sz ∧ (flat (C.T e).zero).isSome = true ∧ (C.T e).sz ≠ 0 ∧ (C.T e).bytes * n ≤ 140737488355328 ∧ n ≤ 9223372036854775807 then
   some (.ai (C.T e).sz (List.replicate n.toNat (C.T e).zero)) else none
 | _, _, _, _ => none
theorem L0 {P : Program} {T bJ ty e : TypeId} {k : IntKind} {i : TypeInfo} {z : Value} (a3 : P.underlying T = some (.slice e)) (hu : P.underlying bJ = some (.int k)) (au : P.info? e = some i) (b2 : i.zero = some z)
  (n : Nat) (bM : n ≠ 0) (ab : i.size ≠ 0) (bh : n ≤ 9223372036854775807) (U : n * i.bytes ≤ 140737488355328) :
  (Builtin.append_ #[T, bJ] ty #[.slice none 0 0, .int .i64 n]).run P w = .ok (.slice (some ⟨w.heap.size, 0, none⟩) n (grownCap w n 0 e))
   (w.drew.alloc (.cells (Builtin.zeroCells z.cells n ++ Builtin.zeroCells z.cells (grownCap w n 0 e - n)) e)) := by
 have sl : IntKind.i64.wrap (n : Int) = n := by rw [IntKind.wrap_i64]; omega
 have xd : ¬ ((n : Int) < 0) := by omega
 have hmul : (n : Int) * (i.bytes : Int) = ((n * i.bytes : Nat) : Int) := by simp
 have eC : ¬ (281474976710656 < (n : Int) * (i.bytes : Int)) := by rw [hmul]; omega
 have hx : ¬ (281474976710656 < Builtin.nextslicecap n 0 * i.bytes) := by
  have : Builtin.nextslicecap n 0 = n := by unfold Builtin.nextslicecap; rw [if_pos (by omega)]
  rw [this]; omega
 have sj : ∀ k (w : World), (askRoom k).run P w = .ok () w := by
  intro k w
  unfold askRoom
  split <;> rfl
 have AD : ¬ (9223372036854775807 < (n : Int)) := by omega
 have AL : n * i.size ≠ 0 := Nat.mul_ne_zero bM ab
 simp [Builtin.append_, run_underlying a3, run_underlying hu, jG au, qC au, asInt, asIntOf, sl, xd, eC, hx, bM, Question.forced, sj, AD, tT au b2, newRow, grownCap, Builtin.firstCells]
 intro kJ; exact (AL kJ).elim
theorem L1 (bt : C.eO) (h : bU w0 F0 X F S s aE w) {T bJ ty : TypeId} {x y : j} {iK ib : Value} (aw : aL w F s aE x iK (fun _ => False)) (bL : aL w F s aE y ib (fun _ => False)) (he : ic C T bJ x y = some av) :
  Good C w0 F0 X aE w (Builtin.append_ #[T, bJ] ty #[iK, ib]) av s := by
 unfold ic at he
 split at he
 ·rename_i e ajf n aB Eu
  have := oD aw; subst this
  have := oC bL; subst this
  obtain ⟨AG, d, AH, a1, bg, bf, cn, c3, b_, bV⟩ := bt.info (fL aB (by simp))
  rw [aB] at bV
  have := kr bV; subst this
  obtain ⟨ajg, ajh, aji, oI, pn, Ev, ajj, ajk, Ew, Ex⟩ := bt.info (fL Eu (by simp))
  rw [Eu] at Ex
  have := tS Ex; subst this
  split at he
  ·rename_i qF
   obtain ⟨bh, nf, n0, oG, ef, Et, uj⟩ := qF
   simp only [Option.some.injEq] at he; subst he
   obtain ⟨i, AJ, z, f1, f2, f3, f4, f5, f6, f7⟩ := bt.info nf
   obtain ⟨eQ, lL⟩ := Option.isSome_iff_exists.1 oG
   have oH := f5 eQ lL
   have hr : ∀ aU, ax w F (C.T e).zero eQ aU := fun aU => (ax.flat _).1 _ eQ aU (Nat.le_refl _) lL
   have nh : eQ.length = (C.T e).sz := by rw [ax.length _ _ _ (hr (fun _ => False)), n0]
   obtain ⟨n, rfl⟩ := Int.eq_ofNat_of_zero_le bh
   simp only [Int.toNat_natCast]
   by_cases bM : n = 0
   ·subst bM
    have run : (Builtin.append_ #[T, bJ] ty #[.slice none 0 0, .int .i64 ((0 : Nat) : Int)]).run C.P w = .ok (.slice none 0 0) w := by
     have sl : IntKind.i64.wrap 0 = 0 := by decide
     simp [Builtin.append_, run_underlying b_, run_underlying Ew, jG f1, qC f1, asInt, asIntOf, sl]
    exact ⟨_, w, F, S, run, h, .inr ⟨rfl, rfl, fun _ => False, by simp only [cp, hW]; rw [ax]; exact .inl ⟨rfl, _, rfl⟩, fun _ h => h.elim, fun _ h => h.elim, fun _ _ h => h.elim, fun _ h => h.elim⟩⟩
   ·have run := L0 (w := w) (ty := ty) b_ Ew f1 f4 n bM (by rw [f2]; exact ef) (by omega) (by
     rw [f3]
     have : ((C.T e).bytes : Int) * (n : Int) = (((C.T e).bytes * n : Nat) : Int) := by simp
     rw [this] at Et
     rw [Nat.mul_comm]; omega)
    rw [oH] at run
    have sd := grownCap_ge w n 0 e
    have uh := grownCap_le_maxLen w n 0 e (by unfold maxLen; omega)
    have Ey : ∀ m, (Builtin.zeroCells eQ.toArray m).toList = (List.replicate m eQ).flatten := by
     intro m
     have := xc eQ m
     unfold Builtin.zeroCells
     simpa [nh] using this
    have iI : ∀ m, (List.replicate m eQ).flatten.length = m * (C.T e).sz := by intro m; simp [nh]
    generalize qR : Builtin.zeroCells eQ.toArray n ++ Builtin.zeroCells eQ.toArray (grownCap w n 0 e - n) = cur at run
    have km : cur.toList = (List.replicate n eQ).flatten ++ (List.replicate (grownCap w n 0 e - n) eQ).flatten := by rw [← qR, Array.toList_append, Ey, Ey]
    have iJ : cur.size = grownCap w n 0 e * (C.T e).sz := by
     have : cur.size = cur.toList.length := by simp
     rw [this, km, List.length_append, iI, iI, ← Nat.add_mul]
     congr 1; omega
    have j6 := h.ud (aS := w.drew.alloc (.cells cur e)) (sz := (C.T e).sz) (cap := grownCap w n 0 e) (xs := List.replicate n (C.T e).zero) (cur := cur) (e := e) (fr := (0, 0)) (Sn := fun _ => False) rfl rfl rfl rfl
     (fun o _ ⟨_, ah⟩ => absurd ah (Nat.not_lt_zero _)) (by simpa using sd) uh iJ (by intro d ak; rw [List.eq_of_mem_replicate ak]; exact n0)
     (by rw [km, List.length_replicate, List.take_left' (iI n)]; exact ba.replicate hr n _) (fun _ h => h.elim) (fun _ h => h.elim) (fun _ _ h => h.elim) (fun _ h => h.elim)
    rw [List.length_replicate] at j6
    exact ⟨_, _, F, S, run, j6.1, j6.2⟩
  ·cases he
 ·cases he
def ie (s : ao) (f : FuncId) (cs : List aH) : Option j := some (.fn f (cs.map (aI s)))
theorem xe {a : Act} (h : bU w0 F0 X F S s aE w) (ej : ∀ t, aE t = a.tmps.getD t undef) : ∀ (os : List Operand) (xs : List aH), os.map dF = xs.map some → dM w F s aE (xs.map (aI s)) (os.map a.eval)
 | [], [], _ => by simp only [List.map_nil]; rw [dM]
 | [], x :: xs, h => by simp at h
 | o :: os, [], h => by simp at h
 | o :: os, x :: xs, bN => by
   simp only [List.map_cons, List.cons.injEq] at bN ⊢
   rw [dM]
   exact ⟨_, _, rfl, (fm h ej bN.1).2, xe h ej os xs bN.2⟩
theorem Ez : ∀ (vs : List Value) (k off : Nat) (A : Array Value) (l m r : List Value), A.toList = l ++ (m ++ r) → l.length = off + k → m.length = vs.length →
  ((vs.zipIdx k).foldl (fun cs (x : Value × Nat) => cs.setIfInBounds (off + x.2) x.1) A).toList = l ++ (vs ++ r)
 | [], k, off, A, l, m, r, ix, hl, hm => by
   have : m = [] := by simpa using hm
   subst this
   simpa using ix
 | v :: vs, k, off, A, l, m, r, ix, hl, hm => by
   obtain ⟨x, m, rfl⟩ : ∃ x jn, m = x :: jn := by
    cases m with
    | nil => simp at hm
    | cons x m => exact ⟨x, m, rfl⟩
   rw [List.zipIdx_cons, List.foldl_cons]
   have := Ez vs (k + 1) off (A.setIfInBounds (off + k) v) (l ++ [v]) m r (by
    rw [Array.toList_setIfInBounds, ix, ← hl, List.set_append_right _ _ (Nat.le_refl _)]
    simp) (by simp; omega) (by simpa using hm)
   simpa using this
def j9 (os : List (Option Nat)) (a : j) : j := os.foldl (fun a o => jQ o a) a
def jI (place : Nat → Option (Nat × Nat)) : ao → List j → List (Option Nat) → List (Nat × j) → Option (List j × ao)
 | s, en, _, [] => some (en, s)
 | s, en, os, (k, a) :: r => match cG s (j9 os a), place k, en[k]? with
   | some (d, s1), some (off, n), some z => match d with
     | .tuple _ => none
     | d => if d.wd = n ∧ z.wd = n ∧ j.dI (en.take k) = off then jI place s1 (en.set k d) (os ++ [(j9 os a).owner]) r else none
   | _, _, _ => none
def mM (w : World) (F : Nat → Prop) (s : ao) (aE : Nat → Value) : List (Nat × j) → List (Nat × Value) → Prop
 | [], [] => True
 | (k, a) :: r, (dU, v) :: g8 => k = dU ∧ a.plain = true ∧ aL w F s aE a v (fun _ => False) ∧ mM w F s aE r g8
 | _, _ => False
theorem L2 (x : Nat) : ∀ d : j, d.plain = true → (ca x d).plain = true
 | .h y q, _ => by simp only [ca]; split <;> (try split) <;> rfl
 | .ay y q, _ => by simp only [ca]; split <;> rfl
 | .U y q, _ => rfl
 | .fn f c, _ => by simp only [ca]; rfl
 | .hole, h => h
 | .bool _, h => h
 | .eo, h => h
 | .int _ _, h => h
 | .str _, h => h
 | .dj, h => h
 | .af, h => h
 | .slice _, h => h
 | .ai _ _, h => h
 | .ref _, h => h
 | .aG _, h => h
 | .agg _, h => h
 | .tuple _, h => h
theorem L3 (o : Option Nat) (d : j) (h : d.plain = true) : (jQ o d).plain = true := by
 cases o with
 | none => exact h
 | some x => exact L2 x d h
theorem mM.ca {w : World} {F : Nat → Prop} {s s1 : ao} {aE : Nat → Value} {o : Option Nat} (ay : ∀ (bw : j) (fK : Value) (aU : Nat → Prop), aL w F s aE bw fK aU → aL w F s1 aE (jQ o bw) fK aU) :
  ∀ (r : List (Nat × j)) (g8 : List (Nat × Value)), mM w F s aE r g8 → mM w F s1 aE (r.map fun p => (p.1, jQ o p.2)) g8
 | [], [], _ => trivial
 | (k, a) :: r, (dU, v) :: g8, h => by
   obtain ⟨ag, ah, aM, bd⟩ := h
   exact ⟨ag, L3 _ _ ah, ay _ _ _ aM, mM.ca ay r g8 bd⟩
 | [], _ :: _, h => h.elim
 | _ :: _, [], h => h.elim
theorem AM {place : Nat → Option (Nat × Nat)} : ∀ (ps : List (Nat × j)) (vs : List (Nat × Value)) (os : List (Option Nat)) (s : ao) (S : Nat → Nat → Prop) (en : List j) (A : Array Value) (g4 : Nat → Prop),
  bU w0 F0 X F S s aE w → mM w F s aE (ps.map fun p => (p.1, j9 os p.2)) vs → ba w F en A.toList g4 → (∀ b, g4 b → b < w.heap.size) → (∀ b, g4 b → ¬ F b) → (∀ u b, g4 b → ¬ S u b) → (∀ b, g4 b → X b ∨ w0.heap.size ≤ b) →
  ∀ ds s1, jI place s en os ps = some (ds, s1) → ∃ lh b7 gl, Instr.fill place A vs = some lh ∧ bU w0 F0 X F b7 s1 aE w ∧ ba w F ds lh.toList gl ∧ (∀ b, gl b → b < w.heap.size) ∧ (∀ b, gl b → ¬ F b) ∧ (∀ u b, gl b → ¬ b7 u b) ∧
    (∀ b, gl b → X b ∨ w0.heap.size ≤ b) ∧ ds.length = en.length ∧ j.dI ds = j.dI en ∧ (∀ n, (∀ d ∈ en, d.wd = n) → ∀ d ∈ ds, d.wd = n)
 | [], [], os, s, S, en, A, g4, h, _, ag, ah, aM, bd, bI, ds, s1, he => by
   simp only [jI, Option.some.injEq, Prod.mk.injEq] at he
   obtain ⟨rfl, rfl⟩ := he
   exact ⟨A, S, g4, rfl, h, ag, ah, aM, bd, bI, rfl, rfl, fun _ h => h⟩
 | (k, a) :: ps, (dU, v) :: vs, os, s, S, en, A, g4, h, ay, ag, ah, aM, bd, bI, ds, s1, he => by
   obtain ⟨rfl, j_, m9, uo⟩ := ay
   simp only [jI] at he
   split at he
   ·rename_i d uq off n z a3 gG b2
    have key : ∀ d : j, (∀ ar, d ≠ .tuple ar) → cG s (j9 os a) = some (d, uq) → (if d.wd = n ∧ z.wd = n ∧ j.dI (en.take k) = off then jI place uq (en.set k d) (os ++ [(j9 os a).owner]) ps else none) = some (ds, s1) →
      ∃ lh b7 gl, Instr.fill place A ((k, v) :: vs) = some lh ∧ bU w0 F0 X F b7 s1 aE w ∧ ba w F ds lh.toList gl ∧ (∀ b, gl b → b < w.heap.size) ∧ (∀ b, gl b → ¬ F b) ∧ (∀ u b, gl b → ¬ b7 u b) ∧
      (∀ b, gl b → X b ∨ w0.heap.size ≤ b) ∧ ds.length = en.length ∧ j.dI ds = j.dI en ∧ (∀ n, (∀ d ∈ en, d.wd = n) → ∀ d ∈ ds, d.wd = n) := by
     intro d oA a3 he
     split at he
     ·rename_i az
      obtain ⟨po, ks, EA⟩ := az
      obtain ⟨b7, g6, a8, bA, Sn, ct, dZ, e6, hy, iu, kM, uk, xa⟩ := nS h j_ m9 a3
      obtain ⟨bT, fv, b4, Sx, hn, ix, g5, e5, fT, ho, e9, k6⟩ := ba.pick en _ _ k z ag b2
      have nb := tW bA oA
      have EB := ax.length _ _ _ ct
      have EC := ax.length _ _ _ e9
      have pf := k6 w d (cp v) Sn (fun _ _ => rfl) (fun _ _ => rfl) ct (fun b L4 L5 => by obtain ⟨u, hu⟩ := uk b L4; exact bd u b (e5 b L5) hu)
      have ED := Ez (cp v) 0 off A bT fv b4 ix (by rw [g5, EA]; rfl) (by rw [EC, EB, po, ks])
      generalize ur : ((cp v).zipIdx 0).foldl (fun cs (x : Value × Nat) => cs.setIfInBounds (off + x.2) x.1) A = w5 at ED
      obtain ⟨lh, dA, gl, fg, gy, iv, lb, mF, dK, oB, c6, AN, kN⟩ := AM (place := place) ps vs (os ++ [(j9 os a).owner]) uq b7 (en.set k d) w5 (fun b => Sx b ∨ Sn b) g6 (by have := mM.ca xa _ _ uo; simpa [j9, List.foldl_append, Function.comp_def] using this) (by rw [ED]; exact pf)
       (by rintro b (U | U); exact ah b (e5 b U); exact dZ b U) (by rintro b (U | U); exact aM b (e5 b U); exact e6 b U)
       (by rintro u b (U | U); exact fun hu => bd u b (e5 b U) (kM u b hu); exact hy u b U) (by rintro b (U | U); exact bI b (e5 b U); exact iu b U) ds s1 he
      refine ⟨lh, dA, gl, ?_, gy, iv, lb, mF, dK, oB, by rw [c6]; simp, by rw [AN]; exact z2 _ _ _ _ b2 (by rw [po, ks]), ?_⟩
      ·have AO : off + n ≤ A.size := by
        have : A.size = A.toList.length := by simp
        rw [this, ix]; simp [g5, EA, EC, ks]
       simp only [Instr.fill, gG, nb, List.size_toArray, EB, po]
       have mD : ¬ (n ≠ n ∨ A.size < off + n) := by omega
       have L6 : (cp v).toArray.zipIdx.foldl (fun cs (x : Value × Nat) => cs.setIfInBounds (off + x.2) x.1) A = w5 := by
        rw [← ur, ← Array.foldl_toList]; simp
       simp only [ne_eq, not_true_eq_false, decide_false, Bool.false_or, decide_eq_true_eq, gt_iff_lt]
       rw [if_neg (by simp; omega)]
       rw [show (cp v).toArray.zipIdx.foldl (fun cs x => match x with | (c, aK) => cs.setIfInBounds (off + aK) c) A = w5 from L6]
       exact fg
      ·intro L7 uu
       refine kN L7 (z3 uu ?_)
       rw [po, ← ks]; exact uu z (List.mem_of_getElem? b2)
     ·cases he
    split at he
    ·cases he
    ·rename_i oA
     exact key _ (fun ar e => oA ar e) a3 he
   ·cases he
 | [], _ :: _, _, _, _, _, _, _, _, ay, _, _, _, _, _, _, _, _ => ay.elim
 | _ :: _, [], _, _, _, _, _, _, _, ay, _, _, _, _, _, _, _, _ => ay.elim
def ed (C : b1) (s : ao) (T : TypeId) (ps : List (Nat × j)) : Option (j × ao) :=
 match (C.T T).k, (C.T T).zero with
 | .struct ar, .agg en => if (flat (.agg en)).isSome = true ∧ (∀ f ∈ ar, (C.T f.1).ok = true) then
   (match jI (fun k => (ar[k]?).map fun f => (f.2, (C.T f.1).sz)) s en [] ps with
   | some (ds, s1) => some (.agg ds, s1)
   | none => none) else none
 | _, _ => none
def cE (C : b1) (s : ao) (T : TypeId) (n : Nat) (ps : List (Nat × j)) : Option (j × ao) :=
 match (C.T T).k with
 | .slice e => if (C.T e).ok = true ∧ (C.T e).zero.wd = (C.T e).sz ∧ (flat (C.T e).zero).isSome = true ∧ (C.T e).sz ≠ 0 ∧ n * (C.T e).sz ≤ 16777216 then
   (match jI (fun k => some (k * (C.T e).sz, (C.T e).sz)) s (List.replicate n (C.T e).zero) [] ps with
   | some (ds, s1) => some (.ai (C.T e).sz ds, s1)
   | none => none) else none
 | _ => none
theorem L8 (bt : C.eO) : ∀ (gs : List Field), (∀ g ∈ gs, (C.T g.type).ok = true) →
  gs.mapM (fun f => (C.P.info? f.type).map fun i => (f.offset, i.size)) = some (gs.map fun g => (g.offset, (C.T g.type).sz)) := by
 intro gs
 induction gs with
 | nil => intro _; simp
 | cons g gs ih =>
   intro bQ
   obtain ⟨i, d, z, f1, f2, f3, f4, f5, f6, f7⟩ := bt.info (bQ g (by simp))
   have := ih (fun g g9 => bQ g (by simp [g9]))
   simp [List.mapM_cons, f1, f2, this]
theorem L9 (bt : C.eO) (h : bU w0 F0 X F S s aE w) {T : TypeId} {ps : List (Nat × j)} {vs : List (Nat × Value)} (ay : mM w F s aE ps vs) (he : ed C s T ps = some (av, s1)) :
  Good C w0 F0 X aE w (Instr.build T vs.toArray) av s1 := by
 unfold ed at he
 split at he
 ·rename_i ar en aB b2
  split at he
  ·rename_i az
   obtain ⟨oG, L_⟩ := az
   split at he
   ·rename_i ds s2 iI
    simp only [Option.some.injEq, Prod.mk.injEq] at he
    obtain ⟨rfl, rfl⟩ := he
    obtain ⟨i, d, z, a1, bg, bf, cn, c3, b_, bV⟩ := bt.info (fL aB (by simp))
    rw [aB] at bV
    obtain ⟨gs, rfl, EE⟩ := tR bV
    obtain ⟨eQ, lL⟩ := Option.isSome_iff_exists.1 oG
    have oH := c3 eQ (by rw [b2]; exact lL)
    have hr : ba w F en eQ.toArray.toList (fun _ => False) := by
     have := (ax.flat (w := w) (F := F) _).1 (.agg en) eQ (fun _ => False) (Nat.le_refl _) lL
     rw [ax] at this
     simpa using this
    have dP : mM w F s aE (ps.map fun p => (p.1, j9 [] p.2)) vs := by simpa [j9] using ay
    obtain ⟨lh, b7, gl, fg, gy, iv, lb, mF, dK, oB, c6, AN, kN⟩ := AM ps vs [] s S en eQ.toArray (fun _ => False) h dP hr (fun _ h => h.elim) (fun _ h => h.elim) (fun _ _ h => h.elim) (fun _ h => h.elim) ds s2 iI
    have gG := L8 bt gs.toList (fun g bQ => L_ (g.type, g.offset) (by rw [← EE]; exact List.mem_map_of_mem bQ))
    have Ma : (fun (k : Nat) => (ar[k]?).map fun (f : TypeId × Nat) => (f.2, (C.T f.1).sz)) = fun (k : Nat) => ((gs.toList.map fun g => (g.offset, (C.T g.type).sz)).toArray)[k]? := by
     funext k
     rw [← EE]
     simp only [List.getElem?_map, List.getElem?_toArray, Option.map_map]
     rfl
    rw [Ma] at fg
    refine ⟨.agg lh, w, F, b7, run_build w T vs.toArray lh ?_, gy, .inr ⟨rfl, ⟨_, rfl⟩, gl, by simp only [cp, hW]; rw [ax]; exact iv, lb, mF, dK, oB⟩⟩
    unfold Program.built
    simp only [a1, b_, cn, gG, oH]
    exact fg
   ·cases he
  ·cases he
 ·cases he
theorem Mb (bt : C.eO) (h : bU w0 F0 X F S s aE w) {T : TypeId} {n : Nat} {ps : List (Nat × j)} {vs : List (Nat × Value)} (ay : mM w F s aE ps vs) (he : cE C s T n ps = some (av, s1)) :
  Good C w0 F0 X aE w (Instr.buildSlice T n vs.toArray) av s1 := by
 unfold cE at he
 split at he
 ·rename_i e aB
  split at he
  ·rename_i az
   obtain ⟨nf, n0, oG, ef, ajl⟩ := az
   split at he
   ·rename_i ds s2 iI
    simp only [Option.some.injEq, Prod.mk.injEq] at he
    obtain ⟨rfl, rfl⟩ := he
    obtain ⟨AG, d, AH, a1, bg, bf, cn, c3, b_, bV⟩ := bt.info (fL aB (by simp))
    rw [aB] at bV
    have := kr bV; subst this
    obtain ⟨i, AJ, z, f1, f2, f3, f4, f5, f6, f7⟩ := bt.info nf
    obtain ⟨eQ, lL⟩ := Option.isSome_iff_exists.1 oG
    have oH := f5 eQ lL
    have hr : ∀ aU, ax w F (C.T e).zero eQ aU := fun aU => (ax.flat _).1 _ eQ aU (Nat.le_refl _) lL
    have nh : eQ.length = (C.T e).sz := by rw [ax.length _ _ _ (hr (fun _ => False)), n0]
    generalize ix : ((Array.range (n * (C.T e).sz)).map ((if n * (C.T e).sz = 0 then #[] else eQ.toArray)[· % (if n * (C.T e).sz = 0 then (#[] : Array Value) else eQ.toArray).size]!)) = A
    have AO : A.toList = (List.replicate n eQ).flatten := by
     rw [← ix]
     by_cases bM : n * (C.T e).sz = 0
     ·have : n = 0 := by
       rcases Nat.mul_eq_zero.1 bM with h | h
       ·exact h
       ·exact (ef h).elim
      subst this
      simp
     ·simp only [bM, if_false]
      have := xc eQ n
      rw [nh] at this
      simpa [nh] using this
    have dP : mM w F s aE (ps.map fun p => (p.1, j9 [] p.2)) vs := by simpa [j9] using ay
    obtain ⟨lh, b7, gl, fg, gy, iv, lb, mF, dK, oB, c6, AN, kN⟩ := AM ps vs [] s S (List.replicate n (C.T e).zero) A (fun _ => False) h dP (by rw [AO]; exact ba.replicate hr n _) (fun _ h => h.elim) (fun _ h => h.elim) (fun _ _ h => h.elim) (fun _ h => h.elim) ds s2 iI
    have hlen : ds.length = n := by rw [c6]; simp
    have EF := kN (C.T e).sz (by intro d ak; rw [List.eq_of_mem_replicate ak]; exact n0)
    have Mc : lh.toList.length = n * (C.T e).sz := by rw [ba.qO iv EF, hlen]
    have Md : lh.size = n * (C.T e).sz := by rw [← Mc]; simp
    have ajm : n ≤ 16777216 := by
     have : n * 1 ≤ n * (C.T e).sz := Nat.mul_le_mul_left _ (by omega)
     omega
    have j6 := gy.ud (aS := w.alloc (.cells lh e)) (sz := (C.T e).sz) (cap := n) (xs := ds) (cur := lh) (e := e) (fr := (0, 0)) (Sn := gl) rfl rfl rfl rfl
     (fun o _ ⟨_, ah⟩ => absurd ah (Nat.not_lt_zero _)) (by omega) (by unfold maxLen; omega) Md EF (by rw [hlen, List.take_of_length_le (by omega)]; exact iv) lb mF dK oB
    rw [hlen] at j6
    refine ⟨_, _, F, b7, ?_, j6.1, j6.2⟩
    by_cases bM : n * (C.T e).sz = 0
    ·simp only [bM, if_true] at ix
     have sm : (Array.map (fun _ => (default : Value)) (Array.range 0)) = A := by
      have : n = 0 := by
       rcases Nat.mul_eq_zero.1 bM with h | h
       ·exact h
       ·exact (ef h).elim
      apply Array.ext'
      rw [AO, this]
      simp
     simp [Instr.buildSlice, run_underlying b_, jG f1, f2, bM, newRow]
     rw [sm, fg]
     simp
    ·simp only [bM, if_false] at ix
     have mD : ¬ (16777216 < n * (C.T e).sz) := by omega
     simp [Instr.buildSlice, run_underlying b_, jG f1, f2, bM, mD, tT f1 f4, oH, newRow]
     have sm : (Array.map (fun x => eQ[x % eQ.length]?.getD default) (Array.range (n * (C.T e).sz))) = A := by
      rw [← ix]; simp
     rw [sm, fg]
     simp
   ·cases he
  ·cases he
 ·cases he
end
inductive fy where
 | ae (x : aH)
 | an (x : aH)
 | pick (c a b : aH)
 | dH (T : TypeId)
 | dk (T : TypeId) (x : aH)
 | ed (T : TypeId) (ps : List (Nat × aH))
 | cE (T : TypeId) (n : Nat) (ps : List (Nat × aH))
 | aN (T : TypeId) (x : aH)
 | ck (T : TypeId) (x y : aH)
 | c1 (x : aH)
 | aP (op : BinOp) (T : TypeId) (x y : aH)
 | un (op : UnOp) (x : aH)
 | fo (A B : TypeId) (x : aH)
 | ie (f : FuncId) (cs : List aH)
 | fE (T : TypeId) (l c : aH)
 | eb (T : TypeId) (x : aH) (cW au : Option aH)
 | a5 (T : TypeId) (x : aH) (k : Nat)
 | cf (T : TypeId) (x i : aH)
 | idx (T : TypeId) (x i : aH)
 | ex (x : aH) (k : Nat)
 | gH (T : TypeId) (x : aH) (k : Nat)
 | call (f : aH) (args : List aH)
 | len (T : TypeId) (x : aH)
 | app (T bJ : TypeId) (x y : aH)
 | shr (bz : fy)
 | ic (T bJ : TypeId) (x y : aH)
 | cap (T : TypeId) (x : aH)
 | n2 (im : Bool) (x y : aH)
 | bad
 | lM (f : aH) (args : List aH) (u x : Nat)
 | kv (f : aH) (args : List aH) (us : List Nat)
 | hL (T : TypeId) (x : aH)
 | lN (x : aH)
 | kO (x : aH)
def fy.base : fy → fy
 | .shr bz => bz
 | .ic T bJ x y => .app T bJ x y
 | .lM f args _ _ => .call f args
 | .kv f args _ => .call f args
 | .hL T x => .dk T x
 | .lN x => .an x
 | .kO x => .ae x
 | bz => bz
def sn : List Operand → Option (List aH)
 | [] => some []
 | o :: os => match dF o, sn os with
   | some x, some xs => some (x :: xs)
   | _, _ => none
def so : List (Nat × Operand) → Option (List (Nat × aH))
 | [] => some []
 | (k, o) :: os => match dF o, so os with
   | some x, some xs => some ((k, x) :: xs)
   | _, _ => none
def uv : Option Operand → Option (Option aH)
 | none => some none
 | some o => (dF o).map some
def dt : Op → Option fy
 | .move x => (dF x).map .ae
 | .assign x => (dF x).map .an
 | .pick c a b => match dF c, dF a, dF b with
   | some c, some a, some b => some (.pick c a b)
   | _, _, _ => none
 | .alloc T => some (.dH T)
 | .box T x => (dF x).map (.dk T)
 | .build T ps => (so ps.toList).map (.ed T)
 | .buildSlice T n ps => (so ps.toList).map (.cE T n)
 | .load T x => (dF x).map (.aN T)
 | .store T x y => match dF x, dF y with
   | some x, some y => some (.ck T x y)
   | _, _ => none
 | .nilCheck x => (dF x).map .c1
 | .binOp op T x y _ => match dF x, dF y with
   | some x, some y => some (.aP op T x y)
   | _, _ => none
 | .unOp op _ x => (dF x).map (.un op)
 | .convert A B x => (dF x).map (.fo A B)
 | .makeFunc (.func f) first cs => if first.isEmpty then (sn cs.toList).map (.ie f) else none
 | .makeSlice T l c => match dF l, dF c with
   | some l, some c => some (.fE T l c)
   | _, _ => none
 | .slice T x cW au none => match dF x, uv cW, uv au with
   | some x, some cW, some au => some (.eb T x cW au)
   | _, _, _ => none
 | .fieldAddr T x k => (dF x).map fun x => .a5 T x k
 | .indexAddr T x i => match dF x, dF i with
   | some x, some i => some (.cf T x i)
   | _, _ => none
 | .index T x i => match dF x, dF i with
   | some x, some i => some (.idx T x i)
   | _, _ => none
 | .extract x k => (dF x).map fun x => .ex x k
 | .field T x k => (dF x).map fun x => .gH T x k
 | .call c => match c.callee with
   | .value f => match dF f, sn c.args.toList with
     | some f, some xs => some (.call f xs)
     | _, _ => none
   | .builtin .len => match c.args.toList, c.argTypes.toList with
     | [x], [T] => (dF x).map (.len T)
     | _, _ => none
   | .builtin .cap => match c.args.toList, c.argTypes.toList with
     | [x], [T] => (dF x).map (.cap T)
     | _, _ => none
   | .builtin .min => match c.args.toList with
     | [x, y] => match dF x, dF y with
       | some x, some y => some (.n2 false x y)
       | _, _ => none
     | _ => none
   | .builtin .max => match c.args.toList with
     | [x, y] => match dF x, dF y with
       | some x, some y => some (.n2 true x y)
       | _, _ => none
     | _ => none
   | .builtin .append => match c.args.toList, c.argTypes.toList with
     | [x, y], [T, bJ] => match dF x, dF y with
       | some x, some y => some (.app T bJ x y)
       | _, _ => none
     | _, _ => none
   | _ => none
 | _ => none
def n2 (im : Bool) : j → j → Option j
 | .str a, .str b => some (.str (wO im a b))
 | _, _ => none
def n3 (s : ao) : j → Option (j × ao)
 | .h y q => cG s (.h y q)
 | d => some (d, s)
def bD (C : b1) (s : ao) : fy → Option (j × ao)
 | .ae x => some (aI s x, s)
 | .an x => match aI s x with
   | .h y q => cG s (.h y q)
   | d => some (d, s)
 | .pick c a b => match aI s c with
   | .bool fl => some (if fl then aI s a else aI s b, s)
   | _ => none
 | .dH T => (dH C T).map fun d => (d, s)
 | .dk _ x => dk s (aI s x)
 | .ed T ps => ed C s T (ps.map fun p => (p.1, aI s p.2))
 | .cE T n ps => cE C s T n (ps.map fun p => (p.1, aI s p.2))
 | .aN T x => (aN C s T (aI s x)).map fun d => (d, s)
 | .ck T x y => (ck C s T (aI s x) (aI s y)).map fun s1 => (.hole, s1)
 | .c1 x => (c1 s (aI s x)).map fun d => (d, s)
 | .aP op T x y => (aP C s op T (aI s x) (aI s y)).map fun d => (d, s)
 | .un op x => (un op (aI s x)).map fun d => (d, s)
 | .fo A B x => (fo C s A B (aI s x)).map fun d => (d, s)
 | .ie f cs => some (.fn f (cs.map (aI s)), s)
 | .fE T l c => (fE C T (aI s l) (aI s c)).map fun d => (d, s)
 | .eb T x cW au => eb C s T (aI s x) (cW.map (aI s)) (au.map (aI s))
 | .a5 T x k => (a5 C s T (aI s x) k).map fun d => (d, s)
 | .cf T x i => (cf C s T (aI s x) (aI s i)).map fun d => (d, s)
 | .idx T x i => (idx C T (aI s x) (aI s i)).map fun d => (d, s)
 | .ex x k => (ex s (aI s x) k).map fun d => (d, s)
 | .gH T x k => (gH C s T (aI s x) k).bind (n3 s)
 | .call _ _ => none
 | .len T x => (ld C s T (aI s x)).map fun d => (d, s)
 | .app T bJ x y => lg C s T bJ (aI s x) (aI s y)
 | .shr _ => none
 | .lM _ _ _ _ => none
 | .kv _ _ _ => none
 | .hL _ x => hL s (aI s x)
 | .lN x => some (aI s x, s)
 | .kO x => n3 s (aI s x)
 | .ic T bJ x y => (ic C T bJ (aI s x) (aI s y)).map fun d => (d, s)
 | .cap T x => match (C.T T).k, aI s x with
   | .slice _, .af => some (.int .i64 0, s)
   | _, _ => none
 | .n2 im x y => (n2 im (aI s x) (aI s y)).map fun d => (d, s)
 | .bad => none
section
variable {C : b1} {w0 w : World} {F0 X F : Nat → Prop} {S : Nat → Nat → Prop} {s s1 : ao} {a : Act} {av : j}
theorem qS : ∀ {os : List Operand} {xs : List aH}, sn os = some xs → os.map dF = xs.map some
 | [], xs, h => by simp [sn] at h; subst h; rfl
 | o :: os, xs, h => by
   simp only [sn] at h
   split at h
   ·rename_i x Me ag ah
    simp at h; subst h
    simp [ag, qS ah]
   ·cases h
theorem AP {aE : Nat → Value} (h : bU w0 F0 X F S s aE w) (ej : ∀ t, aE t = a.tmps.getD t undef) : ∀ {ps : List (Nat × Operand)} {xs : List (Nat × aH)}, so ps = some xs →
  mM w F s aE (xs.map fun p => (p.1, aI s p.2)) (ps.map fun p => (p.1, a.eval p.2))
 | [], xs, h => by simp [so] at h; subst h; trivial
 | (k, o) :: ps, xs, bN => by
   simp only [so] at bN
   split at bN
   ·rename_i x Me ag ah
    simp at bN; subst bN
    obtain ⟨a8, bA⟩ := fm h ej ag
    exact ⟨rfl, a8, bA, AP h ej ah⟩
   ·cases bN
def Next (C : b1) (w0 : World) (F0 X : Nat → Prop) (aE : Nat → Value) (w : World) (m : Sem Go.Next) (av : j) (s1 : ao) : Prop :=
 ∃ r aS v bO aU, m.run C.P w = .ok r aS ∧ (r = .value v ∨ r = .skip ∧ v = undef) ∧ bU w0 F0 X bO aU s1 aE aS ∧ kq w0 X bO aU s1 aE aS av v
theorem Good.next {aE : Nat → Value} {m : Sem Value} (h : Good C w0 F0 X aE w m av s1) : Next C w0 F0 X aE w (do pure (.value (← m))) av s1 := by
 obtain ⟨v, aS, bO, aU, ag, ah, aM⟩ := h
 exact ⟨.value v, aS, v, bO, aU, by simp [ag], .inl rfl, ah, aM⟩
theorem EG {aE : Nat → Value} (h : bU w0 F0 X F S s aE w) {im : Bool} {x y : j} {iK ib : Value} {m : Sem Go.Next} (ag : aL w F s aE x iK (fun _ => False)) (ah : aL w F s aE y ib (fun _ => False))
  (he : (n2 im x y).map (fun d => (d, s)) = some (av, s1)) (hm : m = (do pure (.value (← if im then Builtin.max2 iK ib else Builtin.min2 iK ib)))) : Next C w0 F0 X aE w m av s1 := by
 simp only [Option.map_eq_some_iff, Prod.mk.injEq] at he
 obtain ⟨d, ak, rfl, rfl⟩ := he
 unfold n2 at ak
 split at ak
 ·rename_i a b
  simp only [Option.some.injEq] at ak; subst ak
  have a1 := nW ag
  have bg := nW ah
  subst a1 bg
  subst hm
  refine ⟨.value (.string ⟨⟨wO im a b⟩⟩), w, _, F, S, ?_, .inl rfl, h, .inl ⟨rfl, nc _⟩⟩
  cases im
  ·simp only [Builtin.min2, Op.stringOp, tY, wO, Bool.false_eq_true, if_false]
   cases U : (Op.bytesLess a b || a == b) <;> simp [asBool]
  ·simp only [Builtin.max2, Op.stringOp, tY, wO, if_true]
   cases U : Op.bytesLess a b <;> simp [asBool]
 ·cases ak
theorem EH (bt : C.eO) {aE : Nat → Value} (h : bU w0 F0 X F S s aE w) (ej : ∀ t, aE t = a.tmps.getD t undef) {o : Oper} {bz : fy} (ab : dt o.op = some bz) (he : bD C s bz = some (av, s1)) :
  Next C w0 F0 X aE w (execOp a.eval o) av s1 := by
 obtain ⟨dst, op, ty, pos, after, guard⟩ := o
 simp only at ab
 cases op with
 | move x =>
   simp only [dt, Option.map_eq_some_iff] at ab
   obtain ⟨cO, aw, rfl⟩ := ab
   obtain ⟨a8, bA⟩ := fm h ej aw
   simp only [bD, Option.some.injEq, Prod.mk.injEq] at he
   obtain ⟨rfl, rfl⟩ := he
   exact ⟨_, w, _, F, S, rfl, .inl rfl, h, .inl ⟨a8, bA⟩⟩
 | assign x =>
   simp only [dt, Option.map_eq_some_iff] at ab
   obtain ⟨cO, aw, rfl⟩ := ab
   obtain ⟨a8, bA⟩ := fm h ej aw
   simp only [bD] at he
   split at he
   ·rename_i y q bL
    rw [bL] at a8 bA
    obtain ⟨b7, k0, ch, cu, Sn, eF, dG, ff, ez, iL, _⟩ := nS h a8 bA he
    exact ⟨_, w, _, F, b7, rfl, .inl rfl, k0, .inr ⟨ch, cu, Sn, eF, dG, ff, ez, iL⟩⟩
   ·simp only [Option.some.injEq, Prod.mk.injEq] at he
    obtain ⟨rfl, rfl⟩ := he
    exact ⟨_, w, _, F, S, rfl, .inl rfl, h, .inl ⟨a8, bA⟩⟩
 | pick c x y =>
   simp only [dt] at ab
   split at ab
   ·rename_i xf cO j5 az aw bL
    simp only [Option.some.injEq] at ab; subst ab
    simp only [bD] at he
    split at he
    ·rename_i b U
     simp only [Option.some.injEq, Prod.mk.injEq] at he
     obtain ⟨rfl, rfl⟩ := he
     have qR := (fm h ej az).2
     rw [U] at qR
     have qR := qG qR
     obtain ⟨aj, aF⟩ := fm h ej aw
     obtain ⟨fO, iZ⟩ := fm h ej bL
     refine ⟨.value (if b then a.eval x else a.eval y), w, _, F, S, ?_, .inl rfl, h, .inl ?_⟩
     ·simp [execOp, qR, asBool]
     ·cases b
      ·exact ⟨fO, iZ⟩
      ·exact ⟨aj, aF⟩
    ·cases he
   ·cases ab
 | alloc T =>
   simp only [dt, Option.some.injEq] at ab; subst ab
   simp only [bD, Option.map_eq_some_iff, Prod.mk.injEq] at he
   obtain ⟨d, ak, rfl, rfl⟩ := he
   exact (Lc bt h ak).next
 | box T x =>
   simp only [dt, Option.map_eq_some_iff] at ab
   obtain ⟨cO, aw, rfl⟩ := ab
   obtain ⟨a8, bA⟩ := fm h ej aw
   exact (Lf h a8 bA he).next
 | build T ps =>
   simp only [dt, Option.map_eq_some_iff] at ab
   obtain ⟨Mf, ay, rfl⟩ := ab
   obtain ⟨ps⟩ := ps
   have := (L9 bt h (AP h ej ay) he).next
   simpa [execOp] using this
 | buildSlice T n ps =>
   simp only [dt, Option.map_eq_some_iff] at ab
   obtain ⟨Mf, ay, rfl⟩ := ab
   obtain ⟨ps⟩ := ps
   have := (Mb bt h (AP h ej ay) he).next
   simpa [execOp] using this
 | load T x =>
   simp only [dt, Option.map_eq_some_iff] at ab
   obtain ⟨cO, aw, rfl⟩ := ab
   obtain ⟨a8, bA⟩ := fm h ej aw
   simp only [bD, Option.map_eq_some_iff, Prod.mk.injEq] at he
   obtain ⟨d, ak, rfl, rfl⟩ := he
   exact (K8 bt h bA ak).next
 | store T x y =>
   simp only [dt] at ab
   split at ab
   ·rename_i cO j5 aw bL
    simp only [Option.some.injEq] at ab; subst ab
    simp only [bD, Option.map_eq_some_iff, Prod.mk.injEq] at he
    obtain ⟨s2, ak, rfl, rfl⟩ := he
    obtain ⟨aS, aU, ag, ah⟩ := La bt h (fm h ej aw).2 (fm h ej bL).1 (fm h ej bL).2 ak
    exact ⟨.skip, aS, undef, F, aU, by simp [execOp, ag], .inr ⟨rfl, rfl⟩, ah, .inl ⟨rfl, by rw [aL]; trivial⟩⟩
   ·cases ab
 | nilCheck x =>
   simp only [dt, Option.map_eq_some_iff] at ab
   obtain ⟨cO, aw, rfl⟩ := ab
   obtain ⟨a8, bA⟩ := fm h ej aw
   simp only [bD, Option.map_eq_some_iff, Prod.mk.injEq] at he
   obtain ⟨d, ak, rfl, rfl⟩ := he
   obtain ⟨rfl, ay, aQ⟩ := Lu h bA ak
   refine ⟨.value (a.eval x), w, _, F, S, ?_, .inl rfl, h, .inl ⟨ay, bA⟩⟩
   rcases aQ with ⟨b, U⟩ | ⟨f, c, U⟩ <;> simp [execOp, U]
 | binOp op T x y ajn =>
   simp only [dt] at ab
   split at ab
   ·rename_i cO j5 aw bL
    simp only [Option.some.injEq] at ab; subst ab
    simp only [bD, Option.map_eq_some_iff, Prod.mk.injEq] at he
    obtain ⟨d, ak, rfl, rfl⟩ := he
    exact (Lr bt h x y (fm h ej aw).2 (fm h ej bL).2 ak).next
   ·cases ab
 | unOp op T x =>
   simp only [dt, Option.map_eq_some_iff] at ab
   obtain ⟨cO, aw, rfl⟩ := ab
   simp only [bD, Option.map_eq_some_iff, Prod.mk.injEq] at he
   obtain ⟨d, ak, rfl, rfl⟩ := he
   exact (Ls h (fm h ej aw).2 ak).next
 | convert A B x =>
   simp only [dt, Option.map_eq_some_iff] at ab
   obtain ⟨cO, aw, rfl⟩ := ab
   simp only [bD, Option.map_eq_some_iff, Prod.mk.injEq] at he
   obtain ⟨d, ak, rfl, rfl⟩ := he
   exact (LD bt h (fm h ej aw).2 ak).next
 | makeFunc fn first cs =>
   cases fn with
   | func f =>
     simp only [dt] at ab
     split at ab
     ·rename_i Mg
      simp only [Option.map_eq_some_iff] at ab
      obtain ⟨pq, iJ, rfl⟩ := ab
      simp only [bD, Option.some.injEq, Prod.mk.injEq] at he
      obtain ⟨rfl, rfl⟩ := he
      have Mh : first = #[] := by simpa using Mg
      subst Mh
      refine ⟨_, w, _, F, S, rfl, .inl rfl, h, .inl ⟨rfl, ?_⟩⟩
      rw [aL]
      refine ⟨cs.map a.eval, by simp, ?_⟩
      simpa using xe h ej _ _ (qS iJ)
     ·cases ab
   | _ => simp [dt] at ab
 | makeSlice T l c =>
   simp only [dt] at ab
   split at ab
   ·rename_i cO j5 aw bL
    simp only [Option.some.injEq] at ab; subst ab
    simp only [bD, Option.map_eq_some_iff, Prod.mk.injEq] at he
    obtain ⟨d, ak, rfl, rfl⟩ := he
    exact (LZ bt h (fm h ej aw).2 (fm h ej bL).2 ak).next
   ·cases ab
 | slice T x cW au im =>
   cases im with
   | some m => simp [dt] at ab
   | none =>
     simp only [dt] at ab
     split at ab
     ·rename_i cO ajo EI aw mH mI
      simp only [Option.some.injEq] at ab; subst ab
      obtain ⟨a8, bA⟩ := fm h ej aw
      have opt : ∀ {o : Option Operand} {mf : Option aH}, uv o = some mf → oE w F s aE (mf.map (aI s)) (o.map a.eval) := by
       intro o mf cr
       cases o with
       | none => simp [uv] at cr; subst cr; trivial
       | some o =>
         simp only [uv, Option.map_eq_some_iff] at cr
         obtain ⟨x, aw, rfl⟩ := cr
         exact (fm h ej aw).2
      exact (LH bt h a8 bA (opt mH) (opt mI) he).next
     ·cases ab
 | fieldAddr T x k =>
   simp only [dt, Option.map_eq_some_iff] at ab
   obtain ⟨cO, aw, rfl⟩ := ab
   obtain ⟨a8, bA⟩ := fm h ej aw
   simp only [bD, Option.map_eq_some_iff, Prod.mk.injEq] at he
   obtain ⟨d, ak, rfl, rfl⟩ := he
   exact (K2 bt h a8 bA ak).next
 | indexAddr T x i =>
   simp only [dt] at ab
   split at ab
   ·rename_i cO j5 aw bL
    simp only [Option.some.injEq] at ab; subst ab
    simp only [bD, Option.map_eq_some_iff, Prod.mk.injEq] at he
    obtain ⟨d, ak, rfl, rfl⟩ := he
    exact (K3 bt h (fm h ej aw).2 (fm h ej bL).2 ak).next
   ·cases ab
 | index T x i =>
   simp only [dt] at ab
   split at ab
   ·rename_i cO j5 aw bL
    simp only [Option.some.injEq] at ab; subst ab
    simp only [bD, Option.map_eq_some_iff, Prod.mk.injEq] at he
    obtain ⟨d, ak, rfl, rfl⟩ := he
    exact (LA bt h (fm h ej aw).2 (fm h ej bL).2 ak).next
   ·cases ab
 | extract x k =>
   simp only [dt, Option.map_eq_some_iff] at ab
   obtain ⟨cO, aw, rfl⟩ := ab
   simp only [bD, Option.map_eq_some_iff, Prod.mk.injEq] at he
   obtain ⟨d, ak, rfl, rfl⟩ := he
   exact (Lx h (fm h ej aw).2 ak).next
 | field T x k =>
   simp only [dt, Option.map_eq_some_iff] at ab
   obtain ⟨cO, aw, rfl⟩ := ab
   simp only [bD, Option.bind_eq_some_iff] at he
   obtain ⟨d, ak, he⟩ := he
   obtain ⟨v, aS, bO, aU, a2, l_, m8⟩ := Ly bt h (fm h ej aw).2 ak
   unfold n3 at he
   split at he
   ·rename_i y q
    have Mi : aL aS bO s aE (.h y q) v (fun _ => False) := by
     rcases m8 with ⟨_, bA⟩ | ⟨a8, _⟩
     ·exact bA
     ·cases a8
    obtain ⟨b7, k0, ch, cu, Sn, eF, dG, ff, ez, iL, _⟩ := nS l_ rfl Mi he
    exact ⟨.value v, aS, v, bO, b7, by simp [execOp, a2], .inl rfl, k0, .inr ⟨ch, cu, Sn, eF, dG, ff, ez, iL⟩⟩
   ·simp only [Option.some.injEq, Prod.mk.injEq] at he
    obtain ⟨rfl, rfl⟩ := he
    exact ⟨.value v, aS, v, bO, aU, by simp [execOp, a2], .inl rfl, l_, m8⟩
 | call c =>
   obtain ⟨callee, args, argTypes⟩ := c
   simp only [dt] at ab
   split at ab
   ·split at ab
    ·simp only [Option.some.injEq] at ab; subst ab
     simp [bD] at he
    ·cases ab
   ·split at ab
    ·rename_i x T lO qT
     simp only [Option.map_eq_some_iff] at ab
     obtain ⟨cO, aw, rfl⟩ := ab
     simp only [bD, Option.map_eq_some_iff, Prod.mk.injEq] at he
     obtain ⟨d, ak, rfl, rfl⟩ := he
     have := (LB (ty := ty) bt h (fm h ej aw).2 ak).next
     have a1 : args = #[x] := by apply Array.ext'; exact lO
     have bg : argTypes = #[T] := by apply Array.ext'; exact qT
     subst a1 bg
     simpa [execOp, resolve, invoke, builtin] using this
    ·cases ab
   ·split at ab
    ·rename_i x T lO qT
     simp only [Option.map_eq_some_iff] at ab
     obtain ⟨cO, aw, rfl⟩ := ab
     simp only [bD] at he
     split at he
     ·rename_i e aB Mj
      simp only [Option.some.injEq, Prod.mk.injEq] at he
      obtain ⟨rfl, rfl⟩ := he
      have aQ := (fm h ej aw).2
      rw [Mj] at aQ
      have := oD aQ
      obtain ⟨i, d, z, a1, bg, bf, cn, c3, b_, bV⟩ := bt.info (fL aB (by simp))
      rw [aB] at bV
      have ak := kr bV; subst ak
      have Mk : args = #[x] := by apply Array.ext'; exact lO
      have Ml : argTypes = #[T] := by apply Array.ext'; exact qT
      subst Mk Ml
      have a2 : (Builtin.cap_ #[T] ty #[a.eval x]).run C.P w = .ok (.int .i64 0) w := by
       rw [this]; simp [Builtin.cap_, run_underlying b_, goInt]
      have := (Good.same (av := .int .i64 0) h a2 rfl (of_int _ _)).next
      simpa [execOp, resolve, invoke, builtin] using this
     ·cases he
    ·cases ab
   ·split at ab
    ·rename_i x y lO
     split at ab
     ·rename_i cO j5 aw bL
      simp only [Option.some.injEq] at ab; subst ab
      have a1 : args = #[x, y] := by apply Array.ext'; exact lO
      subst a1
      exact EG h (fm h ej aw).2 (fm h ej bL).2 he (by simp [execOp, resolve, invoke, builtin, Builtin.min_])
     ·cases ab
    ·cases ab
   ·split at ab
    ·rename_i x y lO
     split at ab
     ·rename_i cO j5 aw bL
      simp only [Option.some.injEq] at ab; subst ab
      have a1 : args = #[x, y] := by apply Array.ext'; exact lO
      subst a1
      exact EG h (fm h ej aw).2 (fm h ej bL).2 he (by simp [execOp, resolve, invoke, builtin, Builtin.max_])
     ·cases ab
    ·cases ab
   ·split at ab
    ·rename_i x y T bJ lO qT
     split at ab
     ·rename_i cO j5 aw bL
      simp only [Option.some.injEq] at ab; subst ab
      have := (LQ (ty := ty) bt h (fm h ej aw).2 (fm h ej bL).2 he).next
      have a1 : args = #[x, y] := by apply Array.ext'; exact lO
      have bg : argTypes = #[T, bJ] := by apply Array.ext'; exact qT
      subst a1 bg
      simpa [execOp, resolve, invoke, builtin] using this
     ·cases ab
    ·cases ab
   ·cases ab
 | _ => simp [dt] at ab
end
mutual
def j.ab : j → List Nat
 | .h x _ => [x]
 | .ay x _ => [x]
 | .U x _ => [x]
 | .fn _ cap => j.dV cap
 | _ => []
def j.dV : List j → List Nat
 | [] => []
 | d :: ds => d.ab ++ j.dV ds
end
inductive n4 where
 | no
 | ca
 | cK
structure gn where
 k : n4
 x : Nat
 d : j
def n4.app (k : n4) (x : Nat) (a : j) : j := match k with
 | .no => a
 | .ca => dp.ca x a
 | .cK => dp.cK x a
def gn.at (m : gn) (u : Nat) (a : j) : j := if u = m.x then m.d else m.k.app m.x a
def jq : List gn → Nat → j → j
 | [], _, a => a
 | m :: ms, u, a => jq ms u (m.at u a)
def di (ms : List gn) (s : ao) : ao := fun u => jq ms u (s u)
theorem EJ : ∀ (ms ka : List gn) (u : Nat) (a : j), jq (ms ++ ka) u a = jq ka u (jq ms u a)
 | [], _, _, _ => rfl
 | m :: ms, ka, u, a => by simp only [List.cons_append, jq]; exact EJ ms ka u _
theorem kP (ms ka : List gn) (s : ao) : di (ms ++ ka) s = di ka (di ms s) := by
 funext u; simp [di, EJ]
theorem Mm {ms : List gn} {s aC : ao} {u : Nat} (h : aC u = s u) : di ms aC u = di ms s u := by simp [di, h]
theorem uw (s : ao) (x : Nat) (d : j) : dq (ir x s) x d = di [⟨.ca, x, d⟩] s := by
 funext u; simp only [di, jq, gn.at, dq, ir, n4.app]
theorem EK (s : ao) (x : Nat) (d : j) : dq (k8 x s) x d = di [⟨.cK, x, d⟩] s := by
 funext u; simp only [di, jq, gn.at, dq, k8, n4.app]
theorem AQ (s : ao) (x : Nat) (d : j) : dq s x d = di [⟨.no, x, d⟩] s := by
 funext u; simp only [di, jq, gn.at, dq, n4.app]
mutual
theorem ux {x : Nat} : ∀ a : j, x ∉ a.ab → ca x a = a
 | .h y q, h => by
   simp only [j.ab, List.mem_singleton] at h
   simp only [ca]; rw [if_neg (fun e => h e.symm)]
 | .ay y q, h => by
   simp only [j.ab, List.mem_singleton] at h
   simp only [ca]; rw [if_neg (fun e => h e.symm)]
 | .U y q, h => rfl
 | .fn f cap, h => by simp only [ca]; rw [EL cap (by simpa [j.ab] using h)]
 | .hole, _ => rfl
 | .bool _, _ => rfl
 | .eo, _ => rfl
 | .int _ _, _ => rfl
 | .str _, _ => rfl
 | .dj, _ => rfl
 | .af, _ => rfl
 | .slice _, _ => rfl
 | .ai _ _, _ => rfl
 | .ref _, _ => rfl
 | .aG _, _ => rfl
 | .agg _, _ => rfl
 | .tuple _, _ => rfl
theorem EL {x : Nat} : ∀ ds : List j, x ∉ j.dV ds → h_ x ds = ds
 | [], _ => rfl
 | d :: ds, h => by
   simp only [j.dV, List.mem_append, not_or] at h
   simp only [h_]; rw [ux d h.1, EL ds h.2]
end
mutual
theorem AR {x : Nat} : ∀ a : j, x ∉ a.ab → cK x a = a
 | .h y q, h => by
   simp only [j.ab, List.mem_singleton] at h
   simp only [cK]; rw [if_neg (fun e => h e.symm)]
 | .ay y q, h => by
   simp only [j.ab, List.mem_singleton] at h
   simp only [cK]; rw [if_neg (fun e => h e.symm)]
 | .U y q, h => by
   simp only [j.ab, List.mem_singleton] at h
   simp only [cK]; rw [if_neg (fun e => h e.symm)]
 | .fn f cap, h => by simp only [cK]; rw [EM cap (by simpa [j.ab] using h)]
 | .hole, _ => rfl
 | .bool _, _ => rfl
 | .eo, _ => rfl
 | .int _ _, _ => rfl
 | .str _, _ => rfl
 | .dj, _ => rfl
 | .af, _ => rfl
 | .slice _, _ => rfl
 | .ai _ _, _ => rfl
 | .ref _, _ => rfl
 | .aG _, _ => rfl
 | .agg _, _ => rfl
 | .tuple _, _ => rfl
theorem EM {x : Nat} : ∀ ds : List j, x ∉ j.dV ds → iF x ds = ds
 | [], _ => rfl
 | d :: ds, h => by
   simp only [j.dV, List.mem_append, not_or] at h
   simp only [iF]; rw [AR d h.1, EM ds h.2]
end
theorem uy {k : n4} {x : Nat} {a : j} (h : k = .no ∨ x ∉ a.ab) : k.app x a = a := by
 cases k with
 | no => rfl
 | ca => exact ux a (by simpa using h)
 | cK => exact AR a (by simpa using h)
mutual
theorem EN (x y : Nat) : ∀ a : j, ca x (ca y a) = ca y (ca x a)
 | .h z q => by simp only [ca]; by_cases ag : z = x <;> by_cases ah : z = y <;> by_cases aM : q = [] <;> simp [ag, ah, aM, ca] <;> (subst_vars; simp_all [ca])
 | .ay z q => by simp only [ca]; by_cases ag : z = x <;> by_cases ah : z = y <;> simp [ag, ah, ca] <;> (subst_vars; simp_all [ca])
 | .U z q => rfl
 | .fn f cap => by simp only [ca]; rw [EO x y cap]
 | .hole => rfl
 | .bool _ => rfl
 | .eo => rfl
 | .int _ _ => rfl
 | .str _ => rfl
 | .dj => rfl
 | .af => rfl
 | .slice _ => rfl
 | .ai _ _ => rfl
 | .ref _ => rfl
 | .aG _ => rfl
 | .agg _ => rfl
 | .tuple _ => rfl
theorem EO (x y : Nat) : ∀ ds : List j, h_ x (h_ y ds) = h_ y (h_ x ds)
 | [] => rfl
 | d :: ds => by simp only [h_]; rw [EN x y d, EO x y ds]
end
mutual
theorem EP (x y : Nat) : ∀ a : j, cK x (cK y a) = cK y (cK x a)
 | .h z q => by simp only [cK]; by_cases ag : z = x <;> by_cases ah : z = y <;> simp [ag, ah, cK] <;> (subst_vars; simp_all [cK])
 | .ay z q => by simp only [cK]; by_cases ag : z = x <;> by_cases ah : z = y <;> simp [ag, ah, cK] <;> (subst_vars; simp_all [cK])
 | .U z q => by simp only [cK]; by_cases ag : z = x <;> by_cases ah : z = y <;> simp [ag, ah, cK] <;> (subst_vars; simp_all [cK])
 | .fn f cap => by simp only [cK]; rw [ER x y cap]
 | .hole => rfl
 | .bool _ => rfl
 | .eo => rfl
 | .int _ _ => rfl
 | .str _ => rfl
 | .dj => rfl
 | .af => rfl
 | .slice _ => rfl
 | .ai _ _ => rfl
 | .ref _ => rfl
 | .aG _ => rfl
 | .agg _ => rfl
 | .tuple _ => rfl
theorem ER (x y : Nat) : ∀ ds : List j, iF x (iF y ds) = iF y (iF x ds)
 | [] => rfl
 | d :: ds => by simp only [iF]; rw [EP x y d, ER x y ds]
end
mutual
theorem AS (x y : Nat) : ∀ a : j, ca x (cK y a) = cK y (ca x a)
 | .h z q => by simp only [cK, ca]; by_cases ag : z = x <;> by_cases ah : z = y <;> by_cases aM : q = [] <;> simp [ag, ah, aM, cK, ca] <;> (subst_vars; simp_all [cK, ca])
 | .ay z q => by simp only [cK, ca]; by_cases ag : z = x <;> by_cases ah : z = y <;> simp [ag, ah, cK, ca] <;> (subst_vars; simp_all [cK, ca])
 | .U z q => by simp only [cK, ca]; by_cases ah : z = y <;> simp [ah, ca]
 | .fn f cap => by simp only [cK, ca]; rw [ES x y cap]
 | .hole => rfl
 | .bool _ => rfl
 | .eo => rfl
 | .int _ _ => rfl
 | .str _ => rfl
 | .dj => rfl
 | .af => rfl
 | .slice _ => rfl
 | .ai _ _ => rfl
 | .ref _ => rfl
 | .aG _ => rfl
 | .agg _ => rfl
 | .tuple _ => rfl
theorem ES (x y : Nat) : ∀ ds : List j, h_ x (iF y ds) = iF y (h_ x ds)
 | [] => rfl
 | d :: ds => by simp only [iF, h_]; rw [AS x y d, ES x y ds]
end
theorem Mn (k l : n4) (x y : Nat) (a : j) : k.app x (l.app y a) = l.app y (k.app x a) := by
 cases k <;> cases l <;> simp only [n4.app] <;> first | rfl | exact EN .. | exact EP .. | exact AS .. | exact (AS ..).symm
def aH.use (s : ao) : aH → List Nat
 | .t n => n :: (s n).ab
 | .c av => av.ab
 | .f _ => []
def aH.mN (s : ao) : List aH → List Nat
 | [] => []
 | x :: xs => x.use s ++ aH.mN s xs
def AU (s : ao) : Option aH → List Nat
 | none => []
 | some x => x.use s
def use (s : ao) : fy → List Nat
 | .ae x => x.use s
 | .an x => x.use s
 | .pick c a b => c.use s ++ (a.use s ++ b.use s)
 | .dH _ => []
 | .dk _ x => x.use s
 | .ed _ ps => aH.mN s (ps.map (·.2))
 | .cE _ _ ps => aH.mN s (ps.map (·.2))
 | .aN _ x => x.use s
 | .ck _ x y => x.use s ++ y.use s
 | .c1 x => x.use s
 | .aP _ _ x y => x.use s ++ y.use s
 | .un _ x => x.use s
 | .fo _ _ x => x.use s
 | .ie _ cs => aH.mN s cs
 | .fE _ l c => l.use s ++ c.use s
 | .eb _ x cW au => x.use s ++ (AU s cW ++ AU s au)
 | .a5 _ x _ => x.use s
 | .cf _ x i => x.use s ++ i.use s
 | .idx _ x i => x.use s ++ i.use s
 | .ex x _ => x.use s
 | .gH _ x _ => x.use s
 | .call f args => f.use s ++ aH.mN s args
 | .len _ x => x.use s
 | .app _ _ x y => x.use s ++ y.use s
 | .shr bz => use s bz
 | .lM f args u x => u :: x :: (f.use s ++ aH.mN s args)
 | .kv f args us => us.flatMap (fun u => u :: (s u).ab) ++ (f.use s ++ aH.mN s args)
 | .hL _ x => x.use s
 | .lN x => x.use s
 | .kO x => x.use s
 | .ic _ _ x y => x.use s ++ y.use s
 | .cap _ x => x.use s
 | .n2 _ x y => x.use s ++ y.use s
 | .bad => []
def cY (s : ao) : fy → List Nat
 | .an x => (aI s x).ab
 | .dk _ x => (aI s x).ab
 | .ed _ ps => j.dV (ps.map fun p => aI s p.2)
 | .cE _ _ ps => j.dV (ps.map fun p => aI s p.2)
 | .ck _ x y => (aI s x).ab ++ (aI s y).ab
 | .gH _ x _ => (aI s x).ab
 | .kO x => (aI s x).ab
 | .eb _ x _ _ => (aI s x).ab
 | .app _ _ x y => (aI s x).ab ++ (aI s y).ab
 | .shr bz => cY s bz
 | _ => []
def dx (bJ : List Nat) (aC s : ao) : Prop := ∀ u ∈ bJ, aC u = s u
theorem dx.left {bJ V : List Nat} {aC s : ao} (h : dx (bJ ++ V) aC s) : dx bJ aC s := fun u hu => h u (List.mem_append_left _ hu)
theorem dx.right {bJ V : List Nat} {aC s : ao} (h : dx (bJ ++ V) aC s) : dx V aC s := fun u hu => h u (List.mem_append_right _ hu)
theorem dx.di {bJ : List Nat} {aC s : ao} (h : dx bJ aC s) (ms : List gn) : dx bJ (di ms aC) (di ms s) := fun u hu => Mm (h u hu)
theorem dx.sub {bJ V : List Nat} {aC s : ao} (h : dx bJ aC s) (ab : ∀ u ∈ V, u ∈ bJ) : dx V aC s := fun u hu => h u (ab u hu)
theorem aH.qU {s : ao} {x : aH} : ∀ u ∈ (aI s x).ab, u ∈ x.use s := by
 intro u hu
 cases x with
 | t n =>
   simp only [aI, iG] at hu
   split at hu
   ·simp [aH.use, hu]
   ·simp only [j.ab, List.mem_singleton] at hu; simp [aH.use, hu]
 | c av => exact hu
 | f g => simp [aI, j.ab, j.dV] at hu
theorem aH.fz {s aC : ao} {x : aH} (h : dx (x.use s) aC s) : aI aC x = aI s x := by
 cases x with
 | t n => simp only [aI]; rw [h n (by simp [aH.use])]
 | c av => rfl
 | f g => rfl
theorem dx.aI {s aC : ao} {x : aH} (h : dx (x.use s) aC s) : dx (aI s x).ab aC s := h.sub aH.qU
theorem ET {s aC : ao} {x : Option aH} (h : dx (AU s x) aC s) : x.map (aI aC) = x.map (aI s) := by
 cases x with
 | none => rfl
 | some x => simp only [Option.map_some]; rw [aH.fz h]
theorem aH.AV {s aC : ao} : ∀ {xs : List aH}, dx (aH.mN s xs) aC s → xs.map (aI aC) = xs.map (aI s)
 | [], _ => rfl
 | x :: xs, h => by
   simp only [List.map_cons]
   rw [aH.fz (h.left), aH.AV (h.right)]
theorem aH.AW {s aC : ao} : ∀ {ps : List (Nat × aH)}, dx (aH.mN s (ps.map (·.2))) aC s → (ps.map fun p => (p.1, aI aC p.2)) = ps.map fun p => (p.1, aI s p.2)
 | [], _ => rfl
 | x :: xs, h => by
   simp only [List.map_cons] at h ⊢
   rw [aH.fz (h.left), aH.AW (h.right)]
theorem aH.xg {s : ao} : ∀ {xs : List aH}, ∀ u ∈ j.dV (xs.map (aI s)), u ∈ aH.mN s xs
 | [], u, h => by simp [j.dV] at h
 | x :: xs, u, h => by
   simp only [List.map_cons, j.dV, List.mem_append] at h
   simp only [aH.mN, List.mem_append]
   exact h.imp (aH.qU u) (aH.xg u)
section
variable {C : b1} {s aC : ao} {x y i : j} {T A B : TypeId}
theorem AX (h : dx x.ab aC s) : loc aC x = loc s x := by
 cases x <;> first
  | rfl
  | (simp only [loc]; rw [h _ (by simp [j.ab])])
theorem AY {z : Nat} {q : List Nat} (h : loc s x = some (z, q)) : z ∈ x.ab := by
 cases x with
 | h y p =>
   simp only [loc] at h
   split at h
   ·simp only [Option.some.injEq, Prod.mk.injEq] at h; simp [j.ab, h.1]
   ·cases h
 | ay y p =>
   simp only [loc] at h
   split at h
   ·simp only [Option.some.injEq, Prod.mk.injEq] at h; simp [j.ab, h.1]
   ·cases h
 | _ => simp [loc] at h
theorem Mo (h : dx x.ab aC s) : aN C aC T x = aN C s T x := by
 have hl := AX h
 unfold aN
 split
 ·rfl
 ·rw [h _ (by simp [j.ab])]
 ·rw [hl]
  split
  ·rename_i e
   rw [h _ (AY e)]
  ·rfl
theorem Mp {k : Nat} (h : dx x.ab aC s) : a5 C aC T x k = a5 C s T x k := by
 have hl := AX h
 unfold a5
 split
 ·split
  ·split
   ·split
    ·rfl
    ·rw [h _ (by simp [j.ab])]
    ·rw [hl]
     split
     ·rename_i e
      rw [h _ (AY e)]
     ·rfl
   ·rfl
  ·rfl
 ·rfl
theorem Mq (h : dx x.ab aC s) : cf C aC T x i = cf C s T x i := by
 cases x <;> first
  | rfl
  | (simp only [cf]; rw [h _ (by simp [j.ab])])
theorem Mr (h : dx x.ab aC s) : ld C aC T x = ld C s T x := by
 unfold ld
 cases (C.T T).k <;> cases x <;> first
  | rfl
  | (simp only; rw [h _ (by simp [j.ab])])
theorem Ms (h : dx x.ab aC s) : fo C aC A B x = fo C s A B x := by
 unfold fo
 cases (C.T B).k <;> cases x <;> first
  | rfl
  | (simp only; rw [h _ (by simp [j.ab])])
theorem Mt (h : dx x.ab aC s) : i_ aC x = i_ s x := by
 cases x <;> first
  | rfl
  | (simp only [i_]; rw [h _ (by simp [j.ab])])
theorem Mu (h : dx x.ab aC s) : kt aC x = kt s x := by
 cases x <;> first
  | rfl
  | (simp only [kt]; rw [h _ (by simp [j.ab])])
theorem Mv {op : BinOp} (h : dx x.ab aC s) : aP C aC op T x y = aP C s op T x y := by
 have ag := Mt h
 have ah := Mu h
 unfold aP
 split <;> first | rfl | simp only [ag, ah]
theorem Mw (h : dx x.ab aC s) : c1 aC x = c1 s x := by
 cases x <;> first
  | rfl
  | (simp only [c1]; rw [h _ (by simp [j.ab])])
theorem Mx {k y : Nat} {q : List Nat} (h : gH C s T x k = some (.h y q)) : x.ab = [y] := by
 unfold gH at h
 split at h <;> try (cases h; done)
 split at h <;> try (cases h; done)
 split at h
 ·split at h <;> try (cases h; done)
  split at h
  ·rename_i az
   simp only [Option.some.injEq] at h
   rw [h] at az
   exact absurd az.2.2.2 (by simp [j.tree])
  ·cases h
 ·split at h <;> try (cases h; done)
  split at h <;> try (cases h; done)
  split at h <;> try (cases h; done)
  rename_i d ak az
  by_cases ay : d.plain = true
  ·simp only [ay, if_true, Option.some.injEq] at h
   rw [h] at az
   exact absurd az.2.2.2 (by simp [j.tree])
  ·simp only [ay, Option.some.injEq] at h
   injection h with ag ah
   subst ag; rfl
 ·cases h
theorem EU {k : Nat} (h : dx x.ab aC s) : gH C aC T x k = gH C s T x k := by
 unfold gH
 split <;> try rfl
 split <;> try rfl
 cases x <;> first
  | rfl
  | (simp only []; rw [h _ (by simp [j.ab])])
theorem My {k : Nat} (h : dx x.ab aC s) : ex aC x k = ex s x k := by
 cases x <;> first
  | rfl
  | (simp only [ex]; rw [h _ (by simp [j.ab])])
theorem uz : ∀ (q : List Nat) (a d e : j), j.sub q a = some d → (d.plain = false ∨ q ≠ []) → (q = [] → e.ab = []) → (j.put q e a).ab = [] := by
 intro q a d e h ay he
 cases q with
 | nil => rw [j.put]; exact he rfl
 | cons k q =>
   cases a <;> first
    | (simp [j.sub] at h; done)
    | skip
   all_goals
    unfold j.put
    repeat' split
    all_goals first | rfl | (simp_all; done)
end
def Loc {α : Type} (bJ sq : List Nat) (f : ao → Option (α × ao)) (s : ao) (av : α) (s1 : ao) : Prop :=
 ∃ ms, s1 = di ms s ∧ (∀ m ∈ ms, m.x ∈ sq ∧ m.d.ab = []) ∧ ∀ aC, dx bJ aC s → f aC = some (av, di ms aC)
theorem Loc.pure {α : Type} {bJ sq : List Nat} {f : ao → Option (α × ao)} {s : ao} {av : α} (h : ∀ aC, dx bJ aC s → f aC = some (av, aC)) : Loc bJ sq f s av s :=
 ⟨[], rfl, by simp, fun aC ab => h aC ab⟩
theorem Loc.mono {α : Type} {bJ sq xh EV : List Nat} {f : ao → Option (α × ao)} {s s1 : ao} {av : α} (h : Loc bJ sq f s av s1) (n1 : ∀ u ∈ bJ, u ∈ xh) (lI : ∀ u ∈ sq, u ∈ EV) : Loc xh EV f s av s1 := by
 obtain ⟨ms, ag, ah, aM⟩ := h
 exact ⟨ms, ag, fun m hm => ⟨lI _ (ah m hm).1, (ah m hm).2⟩, fun aC ab => aM aC (ab.sub n1)⟩
section
variable {C : b1} {s s1 : ao} {x y d : j} {T A B : TypeId}
theorem oJ (h : cG s x = some (d, s1)) : Loc x.ab x.ab (fun s => cG s x) s d s1 := by
 cases x with
 | h y q =>
   simp only [cG] at h
   split at h
   ·rename_i e he
    split at h
    ·cases h
    ·rename_i ay
     simp only [Option.some.injEq, Prod.mk.injEq] at h
     obtain ⟨rfl, rfl⟩ := h
     have ay : e.plain = false := by simpa using ay
     refine ⟨[⟨.ca, y, j.put q e.c0 (s y)⟩], uw _ _ _, ?_, ?_⟩
     ·intro m hm
      simp only [List.mem_singleton] at hm; subst hm
      refine ⟨by simp [j.ab], uz q _ _ _ he (.inl ay) fun c9 => ?_⟩
      subst c9
      cases e <;> first | (simp [j.plain] at ay; done) | rfl
     ·intro aC ab
      have a1 : aC y = s y := ab y (by simp [j.ab])
      simp only [cG, a1, he, ay]
      rw [← uw]; rfl
   ·cases h
 | ay y q => simp [cG] at h
 | U y q => simp [cG] at h
 | fn f c => simp [cG] at h
 | hole => simp [cG] at h
 | _ =>
   simp only [cG, Option.some.injEq, Prod.mk.injEq] at h
   obtain ⟨rfl, rfl⟩ := h
   exact .pure fun aC _ => rfl
mutual
theorem EW (x : Nat) : ∀ a : j, ∀ u ∈ (ca x a).ab, u ∈ a.ab
 | .h y q, u, h => by
   simp only [ca] at h
   split at h
   ·split at h
    ·exact h
    ·simp [j.ab] at h
   ·exact h
 | .ay y q, u, h => by
   simp only [ca] at h
   split at h
   ·simp [j.ab] at h
   ·exact h
 | .U y q, u, h => h
 | .fn f cap, u, h => by simp only [ca, j.ab] at h ⊢; exact EX x cap u h
 | .hole, u, h => h
 | .bool _, u, h => h
 | .eo, u, h => h
 | .int _ _, u, h => h
 | .str _, u, h => h
 | .dj, u, h => h
 | .af, u, h => h
 | .slice _, u, h => h
 | .ai _ _, u, h => h
 | .ref _, u, h => h
 | .aG _, u, h => h
 | .agg _, u, h => h
 | .tuple _, u, h => h
theorem EX (x : Nat) : ∀ ds : List j, ∀ u ∈ j.dV (h_ x ds), u ∈ j.dV ds
 | [], u, h => h
 | d :: ds, u, h => by
   simp only [h_, j.dV, List.mem_append] at h ⊢
   exact h.imp (EW x d u) (EX x ds u)
end
theorem AZ (o : Option Nat) (a : j) : ∀ u ∈ (jQ o a).ab, u ∈ a.ab := by
 intro u h
 cases o with
 | none => exact h
 | some x => exact EW x a u h
theorem EY : ∀ (os : List (Option Nat)) (a : j), ∀ u ∈ (j9 os a).ab, u ∈ a.ab := by
 intro os
 induction os with
 | nil => intro a u h; exact h
 | cons o os ih => intro a u h; exact AZ o a u (ih (jQ o a) u h)
theorem EZ {place : Nat → Option (Nat × Nat)} : ∀ {ps : List (Nat × j)} {s s1 : ao} {en ds : List j} {os : List (Option Nat)}, jI place s en os ps = some (ds, s1) →
  Loc (j.dV (ps.map (·.2))) (j.dV (ps.map (·.2))) (fun s => jI place s en os ps) s ds s1 := by
 intro ps
 induction ps with
 | nil =>
   intro s s1 en ds os h
   simp only [jI, Option.some.injEq, Prod.mk.injEq] at h
   obtain ⟨rfl, rfl⟩ := h
   exact .pure fun aC _ => rfl
 | cons p ps ih =>
   intro s s1 en ds os h
   obtain ⟨k, a⟩ := p
   simp only [jI] at h
   split at h
   ·rename_i d s2 off n z a3 gG b2
    split at h
    ·cases h
    ·rename_i bw lP
     split at h
     ·rename_i az
      obtain ⟨ni, rfl, ah, aM⟩ := oJ a3
      obtain ⟨qV, rfl, bI, cx⟩ := ih h
      refine ⟨ni ++ qV, (kP _ _ _).symm, ?_, ?_⟩
      ·intro m hm
       simp only [List.map_cons, j.dV, List.mem_append] at hm ⊢
       rcases hm with hm | hm
       ·exact ⟨.inl (EY _ _ _ (ah m hm).1), (ah m hm).2⟩
       ·exact ⟨.inr (bI m hm).1, (bI m hm).2⟩
      ·intro aC ab
       simp only [List.map_cons, j.dV] at ab
       have a1 := aM aC (ab.left.sub (EY _ _))
       have bg := cx (di ni aC) (ab.right.di ni)
       simp only at a1 bg
       simp only [jI, a1, gG, b2, kP]
       rw [if_pos az]; exact bg
     ·cases h
   ·cases h
theorem Mz {ps : List (Nat × j)} {av : j} (h : ed C s T ps = some (av, s1)) : Loc (j.dV (ps.map (·.2))) (j.dV (ps.map (·.2))) (fun s => ed C s T ps) s av s1 := by
 unfold ed at h
 split at h
 ·rename_i ar en aB b2
  split at h
  ·rename_i az
   split at h
   ·rename_i ds s2 bY
    simp only [Option.some.injEq, Prod.mk.injEq] at h
    obtain ⟨rfl, rfl⟩ := h
    obtain ⟨ms, ag, ah, aM⟩ := EZ bY
    refine ⟨ms, ag, ah, fun aC ab => ?_⟩
    have := aM aC ab
    simp only at this
    simp only [ed, aB, b2, if_pos az, this]
   ·cases h
  ·cases h
 ·cases h
theorem MA {n : Nat} {ps : List (Nat × j)} {av : j} (h : cE C s T n ps = some (av, s1)) : Loc (j.dV (ps.map (·.2))) (j.dV (ps.map (·.2))) (fun s => cE C s T n ps) s av s1 := by
 unfold cE at h
 split at h
 ·rename_i e aB
  split at h
  ·rename_i az
   split at h
   ·rename_i ds s2 bY
    simp only [Option.some.injEq, Prod.mk.injEq] at h
    obtain ⟨rfl, rfl⟩ := h
    obtain ⟨ms, ag, ah, aM⟩ := EZ bY
    refine ⟨ms, ag, ah, fun aC ab => ?_⟩
    have := aM aC ab
    simp only at this
    simp only [cE, aB, if_pos az, this]
   ·cases h
  ·cases h
 ·cases h
theorem MB {av : j} (h : dk s x = some (av, s1)) : Loc x.ab x.ab (fun s => dk s x) s av s1 := by
 unfold dk at h
 split at h
 ·cases h
 ·rename_i d s2 lP a3
  simp only [Option.some.injEq, Prod.mk.injEq] at h
  obtain ⟨rfl, rfl⟩ := h
  obtain ⟨ms, ag, ah, aM⟩ := oJ a3
  refine ⟨ms, ag, ah, fun aC ab => ?_⟩
  have := aM aC ab
  simp only at this
  simp only [dk, this]
 ·cases h
theorem MC {av : j} (h : hL s x = some (av, s1)) : Loc x.ab [] (fun s => hL s x) s av s1 := by
 unfold hL at h
 split at h
 ·rename_i y q
  split at h
  ·rename_i ds ma
   split at h
   ·cases h
   ·rename_i tV
    simp only [Option.some.injEq, Prod.mk.injEq] at h
    obtain ⟨rfl, rfl⟩ := h
    refine .pure fun aC ab => ?_
    have e : aC y = s y := ab y (by simp [j.ab])
    simp only [hL, e, ma, if_neg tV]
  ·cases h
 ·split at h
  ·rename_i az
   simp only [Option.some.injEq, Prod.mk.injEq] at h
   obtain ⟨rfl, rfl⟩ := h
   exact .pure fun aC ab => by simp only [hL, az, if_true]
  ·cases h
 ·cases h
theorem MD {s2 : ao} (h : ck C s T x y = some s2) : Loc (x.ab ++ y.ab) (x.ab ++ y.ab) (fun s => (ck C s T x y).map fun s1 => (j.hole, s1)) s .hole s2 := by
 unfold ck at h
 split at h
 ·rename_i d s1 z q a3 hl
  obtain ⟨ms, ag, ah, aM⟩ := oJ a3
  have b2 := AY hl
  have c9 : q ≠ [] := by
   cases x with
   | h y p =>
     simp only [loc] at hl
     split at hl
     ·simp only [Option.some.injEq, Prod.mk.injEq] at hl; simp [← hl.2]
     ·cases hl
   | ay y p =>
     simp only [loc] at hl
     split at hl
     ·rename_i na
      simp only [Option.some.injEq, Prod.mk.injEq] at hl
      obtain ⟨rfl, rfl⟩ := hl
      intro e; subst e; simp [j.e_] at na
     ·cases hl
   | _ => simp [loc] at hl
  split at h
  ·cases h
  ·rename_i bw lP
   split at h
   ·rename_i d0 lJ
    split at h
    ·rename_i az
     simp only [Option.some.injEq] at h; subst h
     refine ⟨ms ++ [⟨.ca, z, j.put q d (s z)⟩], ?_, ?_, ?_⟩
     ·rw [kP, ← ag, uw]
     ·intro m hm
      simp only [List.mem_append, List.mem_singleton] at hm ⊢
      rcases hm with hm | rfl
      ·exact ⟨.inr (ah m hm).1, (ah m hm).2⟩
      ·exact ⟨.inl b2, uz q _ _ _ lJ (.inr c9) fun e => (c9 e).elim⟩
     ·intro aC ab
      have a1 := aM aC ab.right
      simp only at a1
      simp only [ck, a1, AX ab.left, hl, ab.left z b2, lJ]
      cases d <;> first | (simp only [if_pos az, Option.map_some, kP, uw]; done) | exact (lP _ rfl).elim
    ·cases h
   ·cases h
 ·cases h
theorem ME {cW au : Option j} {av : j} (h : eb C s T x cW au = some (av, s1)) : Loc x.ab x.ab (fun s => eb C s T x cW au) s av s1 := by
 cases x with
 | h y q =>
   unfold eb at h
   split at h <;> first | (cases h; done) | skip
   all_goals (rename_i aw; try cases aw)
   rename_i e aB
   split at h
   ·rename_i sz xs eS
    split at h
    ·rename_i b mH mI
     split at h
     ·rename_i az
      split at h
      ·rename_i d s2 a3
       simp only [Option.some.injEq, Prod.mk.injEq] at h
       obtain ⟨rfl, rfl⟩ := h
       obtain ⟨ms, ag, ah, aM⟩ := oJ a3
       refine ⟨ms, ag, ah, fun aC ab => ?_⟩
       have := aM aC ab
       simp only at this
       have a1 : aC y = s y := ab y (by simp [j.ab])
       simp only [eb, aB, a1, eS, mH, mI, if_pos az, this]
      ·cases h
     ·cases h
    ·cases h
   ·cases h
 | _ =>
   have oK : s1 = s := by
    unfold eb at h
    repeat' split at h
    all_goals first | (cases h; done) | (simp only [Option.some.injEq, Prod.mk.injEq] at h; exact h.2.symm) | simp_all
   subst oK
   refine .pure fun aC _ => ?_
   unfold eb at h ⊢
   repeat' split at h
   all_goals first
    | (cases h; done)
    | (simp only [Option.some.injEq, Prod.mk.injEq] at h
       obtain ⟨rfl, _⟩ := h
       simp_all)
def n5 (C : b1) (e : TypeId) (s : ao) : j → Option (j × ao)
 | .af => some (j.ai (C.T e).sz [], s)
 | .h a q => cG s (.h a q)
 | _ => none
def kx (s1 : ao) : j → Option (List j × ao)
 | .af => some ([], s1)
 | .slice cz => some (cz, s1)
 | .str l => some (l.map jS, s1)
 | .h a q => match cG s1 (.h a q) with
   | some (.ai _ cz, s2) => some (cz, s2)
   | _ => none
 | _ => none
theorem A0 (C : b1) (s : ao) (T bJ : TypeId) (x y : j) : lg C s T bJ x y = (match (C.T T).k with
 | .slice e => if (C.T e).ok = true ∧ (C.T e).zero.wd = (C.T e).sz ∧ (flat (C.T e).zero).isSome = true ∧ w9 C e bJ = true then
   match n5 C e s x with
   | some (.ai sz xs, s1) => if sz = (C.T e).sz then
     match kx s1 (jQ x.owner y) with
     | some (cz, s2) => if (∀ d ∈ cz, d.wd = (C.T e).sz) ∧ (xs.length + cz.length) * (C.T e).bytes ≤ 140737488355328 ∧ xs.length + cz.length ≤ 9223372036854775807 then some (.ai sz (xs ++ cz), s2) else none
     | none => none
     else none
   | _ => none
   else none
 | _ => none) := by
 unfold lg
 generalize jQ x.owner y = j5
 cases (C.T T).k <;> first
  | rfl
  | (cases x <;> cases j5 <;> rfl)
theorem MF {e : TypeId} {d : j} (ag : n5 C e s x = some (d, s1)) : Loc x.ab x.ab (fun s => n5 C e s x) s d s1 := by
 cases x with
 | af =>
   simp only [n5, Option.some.injEq, Prod.mk.injEq] at ag
   obtain ⟨ag, rfl⟩ := ag
   exact .pure fun aC _ => by simp only [n5, ag]
 | h a q => exact oJ ag
 | _ => simp [n5] at ag
theorem MG {cz : List j} (ah : kx s y = some (cz, s1)) : Loc y.ab y.ab (fun s => kx s y) s cz s1 := by
 cases y with
 | af =>
   simp only [kx, Option.some.injEq, Prod.mk.injEq] at ah
   obtain ⟨rfl, rfl⟩ := ah
   exact .pure fun aC _ => rfl
 | slice cz =>
   simp only [kx, Option.some.injEq, Prod.mk.injEq] at ah
   obtain ⟨rfl, rfl⟩ := ah
   exact .pure fun aC _ => rfl
 | str l =>
   simp only [kx, Option.some.injEq, Prod.mk.injEq] at ah
   obtain ⟨rfl, rfl⟩ := ah
   exact .pure fun aC _ => rfl
 | h a q =>
   simp only [kx] at ah
   split at ah
   ·rename_i LS ajp kQ a3
    simp only [Option.some.injEq, Prod.mk.injEq] at ah
    obtain ⟨rfl, rfl⟩ := ah
    obtain ⟨ms, a8, bA, ct⟩ := oJ a3
    refine ⟨ms, a8, bA, fun aC ab => ?_⟩
    have := ct aC ab
    simp only at this
    simp only [kx, this]
   ·cases ah
 | _ => simp [kx] at ah
theorem MH {av : j} (h : lg C s T A x y = some (av, s1)) : Loc (x.ab ++ y.ab) (x.ab ++ y.ab) (fun s => lg C s T A x y) s av s1 := by
 rw [A0] at h
 split at h
 ·rename_i e aB
  split at h
  ·rename_i az
   split at h
   ·rename_i sz xs s2 ag
    split at h
    ·rename_i ef
     split at h
     ·rename_i cz gf ah
      split at h
      ·rename_i ks
       simp only [Option.some.injEq, Prod.mk.injEq] at h
       obtain ⟨rfl, rfl⟩ := h
       obtain ⟨ni, rfl, a9, gz⟩ := MF ag
       obtain ⟨qV, rfl, hq, hM⟩ := (MG ah).mono (AZ _ _) (AZ _ _)
       refine ⟨ni ++ qV, (kP _ _ _).symm, ?_, ?_⟩
       ·intro m hm
        simp only [List.mem_append] at hm ⊢
        rcases hm with hm | hm
        ·exact ⟨.inl (a9 m hm).1, (a9 m hm).2⟩
        ·exact ⟨.inr (hq m hm).1, (hq m hm).2⟩
       ·intro aC ab
        have a1 := gz aC ab.left
        have bg := hM (di ni aC) (ab.right.di ni)
        simp only at a1 bg
        simp only [A0, aB, if_pos az, a1, if_pos ef, bg, if_pos ks, kP]
      ·cases h
     ·cases h
    ·cases h
   ·cases h
  ·cases h
 ·cases h
theorem E0 {bz : fy} {av : j} (h : bD C s bz = some (av, s1)) : Loc (use s bz) (cY s bz) (fun s => bD C s bz) s av s1 := by
 cases bz with
 | shr bz => simp [bD] at h
 | lM f args u x => simp [bD] at h
 | kv f args L => simp [bD] at h
 | kO x =>
   simp only [bD] at h
   unfold n3 at h
   split at h
   ·rename_i y q aw
    obtain ⟨ms, ag, ah, aM⟩ := oJ h
    refine ⟨ms, ag, by simpa only [cY, aw] using ah, fun aC ab => ?_⟩
    have e := aH.fz (x := x) ab
    have bg := aM aC (by rw [← aw]; exact dx.aI ab)
    simp only [bD, e, aw, n3]
    exact bg
   ·rename_i E1
    simp only [Option.some.injEq, Prod.mk.injEq] at h
    obtain ⟨rfl, rfl⟩ := h
    refine .pure fun aC ab => ?_
    have e := aH.fz (x := x) ab
    simp only [bD, e, n3]
 | lN x =>
   simp only [bD, Option.some.injEq, Prod.mk.injEq] at h
   obtain ⟨rfl, rfl⟩ := h
   exact .pure fun aC ab => by simp only [bD, aH.fz (x := x) ab]
 | hL T x =>
   obtain ⟨ms, ag, ah, aM⟩ := MC h
   refine ⟨ms, ag, ah, fun aC ab => ?_⟩
   simp only [bD, aH.fz (x := x) ab]
   exact aM aC (dx.aI ab)
 | ic T bJ x y =>
   simp only [bD, Option.map_eq_some_iff, Prod.mk.injEq] at h
   obtain ⟨d, ak, rfl, rfl⟩ := h
   exact .pure fun aC ab => by
    simp only [use] at ab
    simp only [bD, aH.fz (x := x) ab.left, aH.fz (x := y) ab.right, ak, Option.map_some]
 | bad => simp [bD] at h
 | n2 im x y =>
   simp only [bD, Option.map_eq_some_iff, Prod.mk.injEq] at h
   obtain ⟨d, ak, rfl, rfl⟩ := h
   exact .pure fun aC ab => by
    simp only [use] at ab
    simp only [bD, aH.fz (x := x) ab.left, aH.fz (x := y) ab.right, ak, Option.map_some]
 | cap T x =>
   simp only [bD] at h
   split at h
   ·rename_i e aB aw
    simp only [Option.some.injEq, Prod.mk.injEq] at h
    obtain ⟨rfl, rfl⟩ := h
    exact .pure fun aC ab => by simp only [bD, aH.fz (x := x) ab, aB, aw]
   ·cases h
 | ae x =>
   simp only [bD, Option.some.injEq, Prod.mk.injEq] at h
   obtain ⟨rfl, rfl⟩ := h
   exact .pure fun aC ab => by simp only [bD, aH.fz (x := x) ab]
 | an x =>
   simp only [bD] at h
   split at h
   ·rename_i y q aw
    obtain ⟨ms, ag, ah, aM⟩ := oJ h
    refine ⟨ms, ag, by simpa only [cY, aw] using ah, fun aC ab => ?_⟩
    have e := aH.fz (x := x) ab
    have bg := aM aC (by rw [← aw]; exact dx.aI ab)
    simp only [bD, e, aw]
    exact bg
   ·rename_i E1
    simp only [Option.some.injEq, Prod.mk.injEq] at h
    obtain ⟨rfl, rfl⟩ := h
    refine .pure fun aC ab => ?_
    have e := aH.fz (x := x) ab
    simp only [bD, e]
 | pick c a b =>
   simp only [bD] at h
   split at h
   ·rename_i fl U
    simp only [Option.some.injEq, Prod.mk.injEq] at h
    obtain ⟨rfl, rfl⟩ := h
    refine .pure fun aC ab => ?_
    simp only [use] at ab
    simp only [bD, aH.fz (x := c) ab.left, aH.fz (x := a) ab.right.left, aH.fz (x := b) ab.right.right, U]
   ·cases h
 | dH T =>
   simp only [bD, Option.map_eq_some_iff, Prod.mk.injEq] at h
   obtain ⟨d, ak, rfl, rfl⟩ := h
   exact .pure fun aC ab => by simp only [bD, ak, Option.map_some]
 | dk T x =>
   obtain ⟨ms, ag, ah, aM⟩ := MB h
   refine ⟨ms, ag, ah, fun aC ab => ?_⟩
   simp only [bD, aH.fz (x := x) ab]
   exact aM aC (dx.aI ab)
 | ed T ps =>
   obtain ⟨ms, ag, ah, aM⟩ := Mz h
   simp only [List.map_map, Function.comp_def] at ah aM
   refine ⟨ms, ag, ah, fun aC ab => ?_⟩
   simp only [bD, aH.AW (ps := ps) ab]
   refine aM aC (ab.sub fun u hu => ?_)
   simp only [use]
   exact aH.xg u (by simpa [List.map_map, Function.comp_def] using hu)
 | cE T n ps =>
   obtain ⟨ms, ag, ah, aM⟩ := MA h
   simp only [List.map_map, Function.comp_def] at ah aM
   refine ⟨ms, ag, ah, fun aC ab => ?_⟩
   simp only [bD, aH.AW (ps := ps) ab]
   refine aM aC (ab.sub fun u hu => ?_)
   simp only [use]
   exact aH.xg u (by simpa [List.map_map, Function.comp_def] using hu)
 | aN T x =>
   simp only [bD, Option.map_eq_some_iff, Prod.mk.injEq] at h
   obtain ⟨d, ak, rfl, rfl⟩ := h
   exact .pure fun aC ab => by simp only [bD, aH.fz (x := x) ab, Mo (dx.aI ab), ak, Option.map_some]
 | ck T x y =>
   simp only [bD, Option.map_eq_some_iff, Prod.mk.injEq] at h
   obtain ⟨s2, ak, rfl, rfl⟩ := h
   obtain ⟨ms, ag, ah, aM⟩ := MD ak
   refine ⟨ms, ag, ah, fun aC ab => ?_⟩
   simp only [use] at ab
   simp only [bD, aH.fz (x := x) ab.left, aH.fz (x := y) ab.right]
   exact aM aC (ab.sub fun u hu => by simp only [List.mem_append] at hu ⊢; exact hu.imp (aH.qU u) (aH.qU u))
 | c1 x =>
   simp only [bD, Option.map_eq_some_iff, Prod.mk.injEq] at h
   obtain ⟨d, ak, rfl, rfl⟩ := h
   exact .pure fun aC ab => by simp only [bD, aH.fz (x := x) ab, Mw (dx.aI ab), ak, Option.map_some]
 | aP op T x y =>
   simp only [bD, Option.map_eq_some_iff, Prod.mk.injEq] at h
   obtain ⟨d, ak, rfl, rfl⟩ := h
   refine .pure fun aC ab => ?_
   simp only [use] at ab
   simp only [bD, aH.fz (x := x) ab.left, aH.fz (x := y) ab.right, Mv (dx.aI ab.left), ak, Option.map_some]
 | un op x =>
   simp only [bD, Option.map_eq_some_iff, Prod.mk.injEq] at h
   obtain ⟨d, ak, rfl, rfl⟩ := h
   exact .pure fun aC ab => by simp only [bD, aH.fz (x := x) ab, ak, Option.map_some]
 | fo A B x =>
   simp only [bD, Option.map_eq_some_iff, Prod.mk.injEq] at h
   obtain ⟨d, ak, rfl, rfl⟩ := h
   exact .pure fun aC ab => by simp only [bD, aH.fz (x := x) ab, Ms (dx.aI ab), ak, Option.map_some]
 | ie f cs =>
   simp only [bD, Option.some.injEq, Prod.mk.injEq] at h
   obtain ⟨rfl, rfl⟩ := h
   exact .pure fun aC ab => by simp only [bD, aH.AV (xs := cs) ab]
 | fE T l c =>
   simp only [bD, Option.map_eq_some_iff, Prod.mk.injEq] at h
   obtain ⟨d, ak, rfl, rfl⟩ := h
   refine .pure fun aC ab => ?_
   simp only [use] at ab
   simp only [bD, aH.fz (x := l) ab.left, aH.fz (x := c) ab.right, ak, Option.map_some]
 | eb T x cW au =>
   simp only [bD] at h
   obtain ⟨ms, ag, ah, aM⟩ := ME h
   refine ⟨ms, ag, ah, fun aC ab => ?_⟩
   simp only [use] at ab
   simp only [bD, aH.fz (x := x) ab.left, ET ab.right.left, ET ab.right.right]
   exact aM aC (dx.aI ab.left)
 | a5 T x k =>
   simp only [bD, Option.map_eq_some_iff, Prod.mk.injEq] at h
   obtain ⟨d, ak, rfl, rfl⟩ := h
   exact .pure fun aC ab => by simp only [bD, aH.fz (x := x) ab, Mp (dx.aI ab), ak, Option.map_some]
 | cf T x i =>
   simp only [bD, Option.map_eq_some_iff, Prod.mk.injEq] at h
   obtain ⟨d, ak, rfl, rfl⟩ := h
   refine .pure fun aC ab => ?_
   simp only [use] at ab
   simp only [bD, aH.fz (x := x) ab.left, aH.fz (x := i) ab.right, Mq (dx.aI ab.left), ak, Option.map_some]
 | idx T x i =>
   simp only [bD, Option.map_eq_some_iff, Prod.mk.injEq] at h
   obtain ⟨d, ak, rfl, rfl⟩ := h
   refine .pure fun aC ab => ?_
   simp only [use] at ab
   simp only [bD, aH.fz (x := x) ab.left, aH.fz (x := i) ab.right, ak, Option.map_some]
 | ex x k =>
   simp only [bD, Option.map_eq_some_iff, Prod.mk.injEq] at h
   obtain ⟨d, ak, rfl, rfl⟩ := h
   exact .pure fun aC ab => by simp only [bD, aH.fz (x := x) ab, My (dx.aI ab), ak, Option.map_some]
 | gH T x k =>
   simp only [bD, Option.bind_eq_some_iff] at h
   obtain ⟨d, ak, h⟩ := h
   unfold n3 at h
   split at h
   ·rename_i y q
    have aw := Mx ak
    obtain ⟨ms, ag, ah, aM⟩ := oJ h
    refine ⟨ms, ag, by simpa only [cY, aw, j.ab] using ah, fun aC ab => ?_⟩
    have bg := aM aC (by rw [show (j.h y q).ab = (aI s x).ab from aw.symm]; exact dx.aI ab)
    simp only [bD, aH.fz (x := x) ab, EU (dx.aI ab), ak, Option.bind_some, n3]
    exact bg
   ·rename_i E1
    simp only [Option.some.injEq, Prod.mk.injEq] at h
    obtain ⟨rfl, rfl⟩ := h
    refine .pure fun aC ab => ?_
    simp only [bD, aH.fz (x := x) ab, EU (dx.aI ab), ak, Option.bind_some, n3]
 | call f args => simp [bD] at h
 | len T x =>
   simp only [bD, Option.map_eq_some_iff, Prod.mk.injEq] at h
   obtain ⟨d, ak, rfl, rfl⟩ := h
   exact .pure fun aC ab => by simp only [bD, aH.fz (x := x) ab, Mr (dx.aI ab), ak, Option.map_some]
 | app T bJ x y =>
   obtain ⟨ms, ag, ah, aM⟩ := MH h
   refine ⟨ms, ag, ah, fun aC ab => ?_⟩
   simp only [use] at ab
   simp only [bD, aH.fz (x := x) ab.left, aH.fz (x := y) ab.right]
   exact aM aC (ab.sub fun u hu => by simp only [List.mem_append] at hu ⊢; exact hu.imp (aH.qU u) (aH.qU u))
end
def j.one : j → Bool
 | .agg _ => false
 | .tuple _ => false
 | _ => true
mutual
def view (s : ao) : j → Option j
 | .h x q => match j.sub q (s x) with
   | some d => (match d with | .tuple _ => none | d => if d.plain then none else some d.share)
   | none => none
 | .ay x q => if j.e_ q (s x) then (match j.sub q (s x) with
   | some d => (match d with | .tuple _ => none | d => some (.ref d.share))
   | none => none) else none
 | .U _ _ => none
 | .fn f cap => (views s cap).map (.fn f)
 | .hole => none
 | d => some d
def views (s : ao) : List j → Option (List j)
 | [] => some []
 | d :: ds => match view s d, views s ds with
   | some a, some b => some (a :: b)
   | _, _ => none
end
mutual
theorem A1 : ∀ d : j, d.share.plain = true
 | .hole => rfl
 | .bool _ => rfl
 | .eo => rfl
 | .int _ _ => rfl
 | .str _ => rfl
 | .dj => rfl
 | .af => rfl
 | .slice _ => rfl
 | .ai _ _ => rfl
 | .ref _ => rfl
 | .aG _ => rfl
 | .agg ar => by simp only [j.share, j.plain]; exact A2 ar
 | .tuple ar => by simp only [j.share, j.plain]; exact A2 ar
 | .fn _ _ => rfl
 | .h _ _ => rfl
 | .ay _ _ => rfl
 | .U _ _ => rfl
theorem A2 : ∀ ds : List j, j.d_ (j.shares ds) = true
 | [] => rfl
 | d :: ds => by simp only [j.shares, j.d_]; rw [A1 d, A2 ds]; rfl
end
theorem MI {s : ao} {a d : j} (h : a.plain = true) (he : view s a = some d) : d.plain = true := by
 cases a with
 | h x q =>
   simp only [view] at he
   split at he
   ·rename_i e eS
    cases e <;> simp only at he <;> first
     | (cases he; done)
     | (split at he
        ·cases he
        ·simp only [Option.some.injEq] at he
         subst he; exact A1 _)
   ·cases he
 | ay x q =>
   simp only [view] at he
   split at he
   ·split at he
    ·rename_i e eS
     cases e <;> simp only at he <;> first
      | (cases he; done)
      | (simp only [Option.some.injEq] at he; subst he; rfl)
    ·cases he
   ·cases he
 | fn f cap =>
   simp only [view, Option.map_eq_some_iff] at he
   obtain ⟨ds, _, rfl⟩ := he
   rfl
 | hole => simp [view] at he
 | U y q => simp [view] at he
 | _ => simp only [view, Option.some.injEq] at he; subst he; exact h
theorem A3 {d : j} {v : Value} (ag : ∀ vs, d ≠ .tuple vs) (h : dT d v) : dT d.share v := by
 cases d <;> first | exact h | exact (ag _ rfl).elim
theorem MJ (w : World) : ∀ (q : List Nat) (av d bw : j) (cs cU : List Value) (a cN : Option (Nat × Nat)), j.sub q av = some d → bw.wd = d.wd → c8 w q av cs a = some (d, cU, cN) →
  c8 w q (j.put q bw av) cs a = some (bw, cU, cN) := by
 intro q
 induction q with
 | nil =>
   intro av d bw cs cU a cN ak hw h
   simp only [c8, Option.some.injEq, Prod.mk.injEq] at h
   obtain ⟨rfl, rfl, rfl⟩ := h
   simp only [j.put, c8]
 | cons k q ih =>
   intro av d bw cs cU a cN ak hw h
   cases av with
   | agg ar =>
     simp only [j.sub] at ak
     split at ak
     ·rename_i x aw
      have aB : k < ar.length := (List.getElem?_eq_some_iff.1 aw).1
      simp only [c8, aw] at h
      simp only [j.put, aw, c8]
      rw [List.getElem?_set_self aB]
      simp only [List.take_set_of_le (Nat.le_refl k), j.r7 q x d bw ak hw]
      exact ih _ _ _ _ _ _ _ ak hw h
     ·cases ak
   | tuple ar =>
     simp only [j.sub] at ak
     split at ak
     ·rename_i x aw
      have aB : k < ar.length := (List.getElem?_eq_some_iff.1 aw).1
      simp only [c8, aw] at h
      simp only [j.put, aw, c8]
      rw [List.getElem?_set_self aB]
      simp only [List.take_set_of_le (Nat.le_refl k), j.r7 q x d bw ak hw]
      exact ih _ _ _ _ _ _ _ ak hw h
     ·cases ak
   | ai sz ar =>
     simp only [j.sub] at ak
     split at ak
     ·rename_i x aw
      have aB : k < ar.length := (List.getElem?_eq_some_iff.1 aw).1
      have j8 : (ar.set k (j.put q bw x))[k]? = some (j.put q bw x) := List.getElem?_set_self aB
      simp only [j.put, aw]
      rw [c8.eq_def] at h ⊢
      simp only [aw] at h
      simp only
      rw [j8]
      split at h
      ·rename_i a1
       simp only [Option.some.injEq] at a1; subst a1
       exact ih _ _ _ _ _ _ _ ak hw h
      ·cases h
     ·cases ak
   | aG x =>
     cases k with
     | zero =>
       simp only [j.sub] at ak
       rw [c8.eq_def] at h ⊢
       simp only at h
       simp only [j.put]
       split at h
       ·rw [j.r7 q x d bw ak hw]
        exact ih _ _ _ _ _ _ _ ak hw h
       ·cases h
     | succ k => simp [j.sub] at ak
   | _ => simp [j.sub] at ak
section
variable {w0 w aS : World} {F0 X F Fc : Nat → Prop} {S : Nat → Nat → Prop} {s aC : ao} {aE jF : Nat → Value}
theorem MK (h : bU w0 F0 X F S s aE w) (bE : ∀ b, F b → Fc b) : ∀ n,
  (∀ (a : j) (v : Value) (d : j), SizeOf.sizeOf a ≤ n → (∀ t ∈ a.ab, ∀ b, S t b → Fc b) → view s a = some d → aL w F s aE a v (fun _ => False) → aL w Fc aC jF d v (fun _ => False)) ∧
  (∀ (as : List j) (vs : List Value) (ds : List j), SizeOf.sizeOf as ≤ n → (∀ t ∈ j.dV as, ∀ b, S t b → Fc b) → views s as = some ds → dM w F s aE as vs → dM w Fc aC jF ds vs) := by
 intro n
 induction n with
 | zero => exact ⟨fun a _ _ b2 => by cases a <;> simp at b2 <;> omega, fun as _ _ b2 => by cases as <;> simp at b2 <;> omega⟩
 | succ n ih =>
   refine ⟨fun a v d b2 b9 he aQ => ?_, fun as vs ds b2 b9 he aQ => ?_⟩
   ·cases a with
    | h x q =>
      simp only [view] at he
      split at he
      ·rename_i e eS
       have key : (∀ ar, e ≠ .tuple ar) ∧ e.plain = false ∧ d = e.share := by
        cases e <;> simp only at he <;> first
         | (cases he; done)
         | (split at he
            ·cases he
            ·rename_i gG
             simp only [Option.some.injEq] at he
             exact ⟨(fun _ h => by cases h), by simpa using gG, he.symm⟩)
       obtain ⟨lP, gG, rfl⟩ := key
       rw [aL] at aQ
       obtain ⟨cU, cN, a8, bA, ct⟩ := aQ e eS gG
       have a3 := hX eS (.inl gG)
       have aw := (aL.cJ a3).1 (h.dJ x)
       obtain ⟨fD, a9, ep, gF, k0, ch, cu, eF, dG, ff⟩ := ctx q (s x) (cp (aE x)) (S x) none e aw.2 eS
       rw [a8] at k0
       simp only [Option.some.injEq, Prod.mk.injEq, true_and] at k0
       obtain ⟨rfl, rfl⟩ := k0
       have Ak : e.share.tree = true := by cases e <;> first | rfl | (simp [j.plain] at gG)
       have a2 := ax.shared bE e cU gF (fun b U => b9 x (by simp [j.ab]) b (cu b U)) dG
       exact (aL.cJ Ak).2 ⟨A3 lP ct, by rw [bA]; exact a2⟩
      ·cases he
    | ay x q =>
      simp only [view] at he
      split at he
      ·rename_i na
       split at he
       ·rename_i e eS
        have key : (∀ ar, e ≠ .tuple ar) ∧ d = .ref e.share := by
         cases e <;> simp only at he <;> first
          | (cases he; done)
          | (simp only [Option.some.injEq] at he; exact ⟨(fun _ h => by cases h), he.symm⟩)
        obtain ⟨lP, rfl⟩ := key
        rw [aL] at aQ
        obtain ⟨cU, b, o, a8, rfl⟩ := aQ e eS na
        have a3 := hX eS (.inr na)
        have aw := (aL.cJ a3).1 (h.dJ x)
        obtain ⟨fD, a9, ep, gF, k0, ch, cu, eF, dG, ff⟩ := ctx q (s x) (cp (aE x)) (S x) none e aw.2 eS
        rw [a8] at k0
        simp only [Option.some.injEq, Prod.mk.injEq, true_and] at k0
        obtain ⟨rfl, rfl⟩ := k0
        have a2 := ax.shared bE e cU gF (fun b U => b9 x (by simp [j.ab]) b (cu b U)) dG
        rcases ff with ⟨l, r, _, bg, _⟩ | ⟨fl, cur, ty, fr, l, r, a1, bg, bf, cn, c3, _⟩
        ·simp at bg
        ·simp only [Option.some.injEq, Prod.mk.injEq] at a1
         obtain ⟨rfl, rfl⟩ := a1
         refine (aL.cJ rfl).2 ⟨rfl, ?_⟩
         rw [ax]
         refine ⟨b, l.length, cU, rfl, b9 x (by simp [j.ab]) b (ch b bg), ?_, a2⟩
         intro aK c cS
         simp only [World.cell?, bf]
         have az : cur[l.length + aK]? = some c := by
          rw [← Array.getElem?_toList, c3, List.getElem?_append_right (by omega), List.getElem?_append_left (by
           have := (List.getElem?_eq_some_iff.1 cS).1; omega)]
          rw [← cS]; congr 1; omega
         simpa using az
       ·cases he
      ·cases he
    | fn f cap =>
      simp only [view, Option.map_eq_some_iff] at he
      obtain ⟨ds, i0, rfl⟩ := he
      rw [aL] at aQ
      obtain ⟨arr, rfl, az⟩ := aQ
      rw [aL]
      exact ⟨arr, rfl, ih.2 cap _ _ (by simp at b2; omega) (by simpa [j.ab] using b9) i0 az⟩
    | hole => simp [view] at he
    | U y q => simp [view] at he
    | _ =>
      simp only [view, Option.some.injEq] at he; subst he
      have la := (aL.cJ rfl).1 aQ
      exact (aL.cJ rfl).2 ⟨la.1, ax.mono bE _ _ _ _ (fun _ h => h) la.2⟩
   ·cases as with
    | nil =>
      simp only [views, Option.some.injEq] at he; subst he
      rw [dM] at aQ ⊢; exact aQ
    | cons a as =>
      simp only [views] at he
      split at he
      ·rename_i d ds ag ah
       simp only [Option.some.injEq] at he; subst he
       rw [dM] at aQ ⊢
       obtain ⟨v, i9, rfl, a8, bA⟩ := aQ
       simp at b2
       simp only [j.dV, List.mem_append] at b9
       exact ⟨v, i9, rfl, ih.1 a v d (by omega) (fun t a3 => b9 t (.inl a3)) ag a8, ih.2 as i9 ds (by omega) (fun t a3 => b9 t (.inr a3)) ah bA⟩
      ·cases he
theorem bU.iM (h : bU w0 F0 X F S s aE w) {x : Nat} {q : List Nat} {d0 bw : j} {cU : List Value} {a : Option (Nat × Nat)} {Sn : Nat → Prop}
  (ak : j.sub q (s x) = some d0) (bY : c8 w q (s x) (cp (aE x)) none = some (d0, cU, a)) (ah : ∀ vs, bw ≠ .tuple vs) (a3 : q = [] → bw.tree = true ∧ dT bw (aE x))
  (aM : ∀ k p, q = k :: p → (s x).tree = true ∧ (∀ v, h9 d0 v → h9 bw v)) (hw : bw.wd = d0.wd)
  (aQ : ax w F bw cU Sn) (eC : ∀ b, Sn b → b < w.heap.size) (bE : ∀ b, Sn b → ¬ F b) (b9 : ∀ u b, Sn b → ¬ S u b) (bM : ∀ b, Sn b → X b ∨ w0.heap.size ≤ b) :
  bU w0 F0 X F (gR S x (fun b => S x b ∨ Sn b)) (dq (k8 x s) x (j.put q bw (s x))) aE w := by
 have ej : dq aE x (aE x) = aE := by funext u; simp only [dq]; split <;> simp_all
 have main : (j.put q bw (s x)).tree = true ∧ dT (j.put q bw (s x)) (aE x) ∧ ax w F (j.put q bw (s x)) (cp (aE x)) (fun b => S x b ∨ Sn b) := by
  cases q with
  | nil =>
    simp only [c8, Option.some.injEq, Prod.mk.injEq] at bY
    obtain ⟨a1, bg, bf⟩ := bY
    obtain ⟨a8, bA⟩ := a3 rfl
    simp only [j.put]
    refine ⟨a8, ?_, ?_⟩
    ·exact bA
    ·rw [bg]; exact ax.mono (fun _ h => h) _ _ _ _ (fun b U => .inr U) aQ
  | cons k p =>
    obtain ⟨a8, bA⟩ := aM k p rfl
    have aw := (aL.cJ a8).1 (h.dJ x)
    obtain ⟨fD, a9, ep, gF, k0, ch, cu, eF, dG, ff⟩ := ctx (k :: p) (s x) (cp (aE x)) (S x) none d0 aw.2 ak
    rw [bY] at k0
    simp only [Option.some.injEq, Prod.mk.injEq, true_and] at k0
    obtain ⟨rfl, rfl⟩ := k0
    refine ⟨?_, ?_, ?_⟩
    ·rcases qz k p bw (s x) with ⟨ar, gs, a1, e⟩ | ⟨ar, gs, a1, e⟩ | ⟨sz, xs, cz, a1, e⟩ | ⟨y, z, a1, e⟩ | e <;> rw [e] <;> first | rfl | exact a8
    ·refine Ae aw.1 ak bA (fun _ vs e => (ah vs e).elim) hw
    ·have mono : ∀ b, (ep b ∨ Sn b) → (S x b ∨ Sn b) := fun b U => U.imp (ch b) id
     rcases ff with ⟨l, r, a1, bg, bf⟩ | ⟨b, cur, ty, fr, l, r, a1, bg, bf, cn, c3, b_⟩
     ·rw [a1]
      exact ax.mono (fun _ h => h) _ _ _ _ mono (bf w bw cU Sn (fun _ _ => rfl) (fun _ _ => rfl) hw aQ (fun b U az => b9 x b U (ch b az)))
     ·refine ax.mono (fun _ h => h) _ _ _ _ mono (b_ w bw cU Sn (fun _ _ => rfl) (fun _ _ _ => rfl) ?_ hw aQ (fun b U az => b9 x b U (ch b az)))
      rw [bf, ← c3]
 have := h.DJ (t := x) main.1 main.2.1 main.2.2 (by rintro b (U | U); exact h.eX x b U; exact eC b U) (by rintro b (U | U); exact h.ga x b U; exact bE b U)
  (by rintro u b er (U | U); exact fun hu => h.fJ u x b er hu U; exact b9 u b U) (by rintro b (U | U); exact h.dW x b U; exact bM b U)
 rwa [ej] at this
end
mutual
def j.dm : j → Bool
 | .slice _ => false
 | .ref _ => false
 | .fn _ _ => false
 | .h _ _ => false
 | .ay _ _ => false
 | .U _ _ => false
 | .ai _ xs => j.i1 xs
 | .aG d => d.dm
 | .agg ar => j.i1 ar
 | .tuple ar => j.i1 ar
 | _ => true
def j.i1 : List j → Bool
 | [] => true
 | d :: ds => d.dm && j.i1 ds
end
mutual
theorem ax.dm {w : World} {F bO : Nat → Prop} : ∀ (d : j) (cs : List Value) (S : Nat → Prop), d.dm = true → ax w F d cs S → ax w bO d cs S
 | .hole, _, _, _, h => h
 | .bool _, _, _, _, h => h
 | .eo, _, _, _, h => h
 | .int _ _, _, _, _, h => h
 | .str _, _, _, _, h => h
 | .dj, _, _, _, h => h
 | .af, _, _, _, h => h
 | .slice xs, cs, S, bh, h => by simp [j.dm] at bh
 | .ref d, cs, S, bh, h => by simp [j.dm] at bh
 | .ai sz xs, cs, S, bh, h => by
   rw [ax] at h ⊢
   rcases h with h | ⟨b, cap, cur, e, fr, aU, ag, ah, aM, bd, bI, cx, cy, eB, iq, hk, kI⟩
   ·exact .inl h
   ·exact .inr ⟨b, cap, cur, e, fr, aU, ag, ah, aM, bd, bI, cx, cy, eB, ba.dm xs _ _ bh iq, hk, kI⟩
 | .aG d, cs, S, bh, h => by
   rw [ax] at h ⊢
   obtain ⟨b, cur, e, fr, aU, ag, ah, aM, bd, bI, cx, cy⟩ := h
   exact ⟨b, cur, e, fr, aU, ag, ah, aM, bd, ax.dm d _ _ bh bI, cx, cy⟩
 | .agg ar, cs, S, bh, h => by rw [ax] at h ⊢; exact ba.dm ar _ _ bh h
 | .tuple ar, cs, S, bh, h => by rw [ax] at h ⊢; exact ba.dm ar _ _ bh h
 | .fn _ _, _, _, bh, h => by simp [j.dm] at bh
 | .h _ _, _, _, _, h => h
 | .ay _ _, _, _, _, h => h
 | .U _ _, _, _, _, h => h
theorem ba.dm {w : World} {F bO : Nat → Prop} : ∀ (ds : List j) (cs : List Value) (S : Nat → Prop), j.i1 ds = true → ba w F ds cs S → ba w bO ds cs S
 | [], _, _, _, h => h
 | d :: ds, cs, S, bh, h => by
   simp only [j.i1, Bool.and_eq_true] at bh
   rw [ba] at h ⊢
   obtain ⟨bT, b4, b7, dA, ag, ah, aM, bd, bI, cx⟩ := h
   exact ⟨bT, b4, b7, dA, ag, ax.dm d _ _ bh.1 ah, ba.dm ds _ _ bh.2 aM, bd, bI, cx⟩
end
theorem E2 : ∀ (q : List Nat) (av d e : j), j.sub q av = some d → j.sub q (j.put q e av) = some e := by
 intro q
 induction q with
 | nil => intro av d e _; simp [j.put, j.sub]
 | cons k q ih =>
   intro av d e h
   cases av with
   | agg ar =>
     simp only [j.sub] at h
     split at h
     ·rename_i x aw
      have aB : k < ar.length := (List.getElem?_eq_some_iff.1 aw).1
      simp only [j.put, aw, j.sub, List.getElem?_set_self aB]
      exact ih _ _ _ h
     ·cases h
   | tuple ar =>
     simp only [j.sub] at h
     split at h
     ·rename_i x aw
      have aB : k < ar.length := (List.getElem?_eq_some_iff.1 aw).1
      simp only [j.put, aw, j.sub, List.getElem?_set_self aB]
      exact ih _ _ _ h
     ·cases h
   | ai sz ar =>
     simp only [j.sub] at h
     split at h
     ·rename_i x aw
      have aB : k < ar.length := (List.getElem?_eq_some_iff.1 aw).1
      simp only [j.put, aw, j.sub, List.getElem?_set_self aB]
      exact ih _ _ _ h
     ·cases h
   | aG x =>
     cases k with
     | zero => simp only [j.sub] at h; simp only [j.put, j.sub]; exact ih _ _ _ h
     | succ k => simp [j.sub] at h
   | _ => simp [j.sub] at h
structure cH where
 a : j
 g : Bool
 d : j
 o : j
def j.own : j → Bool
 | .ai _ _ => true
 | .aG _ => true
 | _ => false
def j.fV : j → Bool
 | .ai _ _ => true
 | .aG _ => true
 | .agg ar => !j.d_ ar
 | _ => false
def qW (d o : j) : Bool := match d, o with
 | .agg a, .agg b => j.dI a == j.dI b
 | .agg _, _ => false
 | _, .agg _ => false
 | _, _ => true
theorem pr {d : j} (h : d.fV = true) : d.plain = false ∧ d.tree = true ∧ ∀ vs, d ≠ .tuple vs := by
 cases d <;> simp [j.fV] at h <;> first | exact ⟨rfl, rfl, fun vs e => by cases e⟩ | exact ⟨by simp only [j.plain]; exact h, rfl, fun vs e => by cases e⟩
theorem ML {d o : j} (h : d.fV = true) (cr : o.fV = true) (hl : qW d o = true) : o.wd = d.wd ∧ (∀ v, dT d v → dT o v) ∧ ∀ v, h9 d.c0 v → h9 o v := by
 cases d <;> simp [j.fV] at h <;> cases o <;> simp [j.fV] at cr <;> simp [qW] at hl <;> first
  | exact ⟨rfl, fun _ h => h, fun _ h => h⟩
  | exact ⟨by simp only [j.wd]; exact hl.symm, fun _ h => h, fun _ h => h⟩
def cH.ok (s : ao) (p : cH) : Prop :=
 if p.g then (match p.a with | .h x q => j.sub q (s x) = some p.d ∧ p.d.fV = true ∧ (p.o = .hole ∨ (p.o.fV = true ∧ qW p.d p.o = true)) | _ => False)
 else view s p.a = some p.d
def hN : List cH → Bool
 | [] => true
 | p :: r => (r.all fun cl => !(p.g || cl.g) || (p.a.ab.all fun u => !cl.a.ab.contains u)) && hN r
def cH.take (s : ao) (p : cH) : ao :=
 if p.g then (match p.a with | .h x q => dq (ir x s) x (j.put q p.d.c0 (s x)) | _ => s) else s
def cH.iM (s : ao) (p : cH) : ao :=
 if p.g then (match p.a, p.o with | _, .hole => s | .h x q, o => dq (k8 x s) x (j.put q o (s x)) | _, _ => s) else s
def eK (s : ao) (ps : List cH) : ao := ps.foldl cH.take s
def g_ (s : ao) (ps : List cH) : ao := ps.foldl cH.iM s
section
variable {w0 w aS : World} {F0 X F Fc : Nat → Prop} {S : Nat → Nat → Prop} {s aC : ao} {aE jF : Nat → Value}
def MM (w : World) (F : Nat → Prop) (s1 : ao) (aE : Nat → Value) (p : cH) (v : Value) (Sn : Nat → Prop) : Prop :=
 ∃ x q I, p.a = .h x q ∧ j.sub q (s1 x) = some p.d.c0 ∧ c8 w q (s1 x) (cp (aE x)) none = some (p.d.c0, cp v, I) ∧ (s1 x).ab = [] ∧ (q = [] → dT p.d (aE x)) ∧ (q ≠ [] → (s1 x).tree = true) ∧
   dT p.d v ∧ ax w F p.d (cp v) Sn
theorem MN {p : cH} {x : Nat} (h : (s x).ab = []) (ay : p.g = true → x ∉ p.a.ab) : cH.take s p x = s x := by
 unfold cH.take
 split
 ·rename_i bQ
  cases bX : p.a with
  | h y q =>
    have : x ≠ y := by
     have := ay bQ
     rw [bX] at this
     simpa [j.ab] using this
    simp only
    rw [jE _ _ this]
    exact ux _ (by rw [h]; simp)
  | _ => rfl
 ·rfl
theorem A4 : ∀ {ps : List cH} {s : ao} {x : Nat}, (s x).ab = [] → (∀ p ∈ ps, p.g = true → x ∉ p.a.ab) → eK s ps x = s x := by
 intro ps
 induction ps with
 | nil => intros; rfl
 | cons p ps ih =>
   intro s x h ay
   have e := MN (s := s) (p := p) h (ay p (by simp))
   show eK (cH.take s p) ps x = s x
   rw [ih (by rw [e]; exact h) (fun cl dP => ay cl (by simp [dP])), e]
theorem oL {d : j} (h : d.own = true) : d.plain = false ∧ d.tree = true ∧ d.c0 = .hole ∧ d.one = true ∧ d.wd = 1 ∧ (∀ v, dT d v ↔ Value.gw v = true) := by
 cases d <;> simp [j.own] at h <;> exact ⟨rfl, rfl, rfl, rfl, rfl, fun v => Iff.rfl⟩
theorem MO : ∀ (ps : List cH) (vs : List Value) (s : ao) (S : Nat → Nat → Prop), bU w0 F0 X F S s aE w → ps.length = vs.length →
  (∀ (i : Nat) (p : cH) (v : Value), ps[i]? = some p → vs[i]? = some v → p.a.plain = true ∧ aL w F s aE p.a v (fun _ => False) ∧ (p.g = true → p.ok s)) → hN ps = true →
  ∃ (Sn b7 : Nat → Nat → Prop), bU w0 F0 X F b7 (eK s ps) aE w ∧ (∀ u b, b7 u b → S u b) ∧
    (∀ (i : Nat) (p : cH) (v : Value), ps[i]? = some p → vs[i]? = some v → p.g = true → MM w F (eK s ps) aE p v (Sn i)) ∧
    (∀ i b, Sn i b → ∃ p, ps[i]? = some p ∧ p.g = true) ∧
    (∀ i b, Sn i b → ∃ u, S u b) ∧ (∀ i u b, Sn i b → ¬ b7 u b) ∧ (∀ i aK b, i ≠ aK → Sn i b → ¬ Sn aK b) ∧
    (∀ (bw : j) (fK : Value) (aU : Nat → Prop), (∀ p ∈ ps, p.g = true → ∀ u ∈ p.a.ab, u ∉ bw.ab) → aL w F s aE bw fK aU → aL w F (eK s ps) aE bw fK aU) := by
 intro ps
 induction ps with
 | nil =>
   intro vs s S h hl _ _
   exact ⟨fun _ _ => False, S, h, fun _ _ h => h, fun i p v ay => by simp at ay, fun _ _ h => h.elim, fun _ _ h => h.elim, fun _ _ _ h => h.elim, fun _ _ _ _ h => h.elim, fun _ _ _ _ h => h⟩
 | cons p ps ih =>
   intro vs s S h hl uo j_
   cases vs with
   | nil => simp at hl
   | cons v vs =>
     simp only [List.length_cons, Nat.add_right_cancel_iff] at hl
     simp only [hN, Bool.and_eq_true, List.all_eq_true, Bool.or_eq_true, Bool.not_eq_true'] at j_
     obtain ⟨nj, mO⟩ := j_
     have sr : ∀ cl ∈ ps, (p.g = true ∨ cl.g = true) → ∀ u ∈ p.a.ab, u ∉ cl.a.ab := by
      intro cl dP bQ u hu
      rcases nj cl dP with e | e
      ·rcases bQ with bQ | bQ <;> simp [bQ] at e
      ·simpa using e u hu
     obtain ⟨f1, f2, f3⟩ := uo 0 p v rfl rfl
     cases bQ : p.g with
     | false =>
       have gd : cH.take s p = s := by simp [cH.take, bQ]
       obtain ⟨Sn, b7, a8, bA, ct, dZ, e6, hy, iu, kM⟩ := ih vs s S h hl (fun i cl fK ay aQ => uo (i + 1) cl fK (by simpa using ay) (by simpa using aQ)) mO
       have a1 : eK s (p :: ps) = eK s ps := by show eK (cH.take s p) ps = _; rw [gd]
       rw [a1]
       refine ⟨fun i => match i with | 0 => fun _ => False | i + 1 => Sn i, b7, a8, bA, ?_, ?_, ?_, ?_, ?_, fun bw fK aU ak => kM bw fK aU fun cl dP => ak cl (by simp [dP])⟩
       ·intro i cl fK ay aQ g9
        cases i with
        | zero => simp at ay; subst ay; rw [bQ] at g9; cases g9
        | succ i => exact ct i cl fK (by simpa using ay) (by simpa using aQ) g9
       ·intro i b U
        cases i with
        | zero => exact U.elim
        | succ i => simpa using dZ i b U
       ·intro i b U
        cases i with
        | zero => exact U.elim
        | succ i => exact e6 i b U
       ·intro i u b U
        cases i with
        | zero => exact U.elim
        | succ i => exact hy i u b U
       ·intro i aK b er au cS
        cases i with
        | zero => exact au.elim
        | succ i =>
          cases aK with
          | zero => exact cS.elim
          | succ aK => exact iu i aK b (by omega) au cS
     | true =>
       have fp := f3 bQ
       simp only [cH.ok, bQ, if_true] at fp
       split at fp
       ·rename_i x q bX
        obtain ⟨eS, A5, tO⟩ := fp
        obtain ⟨lj, mg, ss⟩ := pr A5
        have MP : cG s p.a = some (p.d, dq (ir x s) x (j.put q p.d.c0 (s x))) := by
         rw [bX]; simp only [cG, eS, lj]; rfl
        obtain ⟨b7, t1, t2, t3, MQ, t4, t5, t6, t7, t8, t9, t10, t11⟩ := nS h f1 f2 MP
        have gd : cH.take s p = dq (ir x s) x (j.put q p.d.c0 (s x)) := by simp [cH.take, bQ, bX]
        have n6 : ∀ cl ∈ ps, x ∉ cl.a.ab := fun cl dP => sr cl dP (.inl bQ) x (by rw [bX]; simp [j.ab])
        have A6 : cH.take s p x = j.put q p.d.c0 (s x) := by rw [gd, mC]
        have E3 : (cH.take s p x).ab = [] := by
         rw [A6]; exact uz q _ _ _ eS (.inl lj) (fun _ => by cases ak : p.d <;> first | rfl | (rw [ak] at A5; simp [j.fV] at A5))
        obtain ⟨Sn, dA, a8, bA, ct, dZ, e6, hy, iu, kM⟩ := ih vs (cH.take s p) b7 (by rw [gd]; exact t1) hl (by
         intro i cl fK ay aQ
         obtain ⟨ch, cu, eF⟩ := uo (i + 1) cl fK (by simpa using ay) (by simpa using aQ)
         have hm : cl ∈ ps := List.mem_of_getElem? ay
         refine ⟨ch, ?_, ?_⟩
         ·have := t11 _ _ _ cu
          rw [bX] at this
          rw [gd]
          simp only [j.owner, jQ] at this
          rwa [ux _ (n6 cl hm)] at this
         ·intro g9
          have := eF g9
          simp only [cH.ok, g9, if_true] at this ⊢
          split at this
          ·rename_i y iX qX
           have er : y ≠ x := fun e => n6 cl hm (by rw [qX, e]; simp [j.ab])
           rw [gd, jE _ _ er]
           have a3 := hX this.1 (.inl (pr this.2.1).1)
           simp only [ir, Ac a3]
           exact this
          ·exact this.elim) mO
        have a1 : eK s (p :: ps) = eK (cH.take s p) ps := rfl
        have pt : eK (cH.take s p) ps x = j.put q p.d.c0 (s x) := by
         rw [A4 E3 (fun cl dP _ => n6 cl dP), A6]
        rw [a1]
        refine ⟨fun i => match i with | 0 => MQ | i + 1 => Sn i, dA, a8, fun u b U => t9 u b (bA u b U), ?_, ?_, ?_, ?_, ?_, ?_⟩
        rotate_left 5
        ·intro bw fK aU ak iN
         refine kM bw fK aU (fun cl dP => ak cl (by simp [dP])) ?_
         have := t11 _ _ _ iN
         rw [bX] at this
         rw [gd]
         simp only [j.owner, jQ] at this
         rwa [ux _ (ak p (by simp) bQ x (by rw [bX]; simp [j.ab]))] at this
        ·intro i cl fK ay aQ g9
         cases i with
         | zero =>
           simp at ay aQ; subst ay aQ
           have xi := f2
           rw [bX, aL] at xi
           obtain ⟨cU, I, bT, b4, E4⟩ := xi _ eS lj
           refine ⟨x, q, I, bX, ?_, ?_, ?_, ?_, ?_, t3, t4⟩
           ·rw [pt]; exact E2 q _ _ _ eS
           ·rw [pt, b4]; exact MJ w q _ _ _ _ _ _ _ eS (j.pd _) bT
           ·rw [pt, ← A6]; exact E3
           ·intro c9; subst c9
            simp only [j.sub, Option.some.injEq] at eS
            have := (aL.cJ (by rw [eS]; exact mg)).1 (h.dJ x)
            rw [eS] at this
            exact this.1
           ·intro c9
            have a3 := hX eS (.inl lj)
            rw [pt]
            cases q with
            | nil => exact (c9 rfl).elim
            | cons k q => rcases qz k q p.d.c0 (s x) with ⟨ar, gs, a1, e⟩ | ⟨ar, gs, a1, e⟩ | ⟨sz, xs, cz, a1, e⟩ | ⟨y, z, a1, e⟩ | e <;> rw [e] <;> first | rfl | exact a3
         | succ i => exact ct i cl fK (by simpa using ay) (by simpa using aQ) g9
        ·intro i b U
         cases i with
         | zero => exact ⟨p, rfl, bQ⟩
         | succ i => simpa using dZ i b U
        ·intro i b U
         cases i with
         | zero => exact t10 b U
         | succ i => obtain ⟨u, hu⟩ := e6 i b U; exact ⟨u, t9 u b hu⟩
        ·intro i u b U
         cases i with
         | zero => exact fun hu => t7 u b U (bA u b hu)
         | succ i => exact hy i u b U
        ·intro i aK b er au cS
         cases i with
         | zero =>
           cases aK with
           | zero => exact er rfl
           | succ aK => obtain ⟨u, hu⟩ := e6 aK b cS; exact t7 u b au hu
         | succ i =>
           cases aK with
           | zero => obtain ⟨u, hu⟩ := e6 i b au; exact t7 u b cS hu
           | succ aK => exact iu i aK b (by omega) au cS
       ·exact fp.elim
end
def fP (l : List j) : ao := fun i => l.getD i .hole
def ha (l : List Value) : Nat → Value := fun i => l.getD i undef
def nk (P : Program) (f : FuncId) (args : Array Value) (w : World) (uA : Value → World → Prop) : Prop :=
 ((callFunc f args).run P w = .ok (.enter f args) w ∧ Calls P f args w (fun e aS => ∃ v, e = .returned v ∧ uA v aS)) ∨
 ∃ v aS, (callFunc f args).run P w = .ok (.value v) aS ∧ uA v aS
theorem nk.mono {P : Program} {f : FuncId} {args : Array Value} {w : World} {uA E5 : Value → World → Prop} (h : nk P f args w uA) (a2 : ∀ v aS, uA v aS → E5 v aS) : nk P f args w E5 := by
 rcases h with ⟨ag, ah⟩ | ⟨v, aS, ag, ah⟩
 ·exact .inl ⟨ag, Calls.mono ah fun e aS ⟨v, e, h⟩ => ⟨v, e, a2 v aS h⟩⟩
 ·exact .inr ⟨v, aS, ag, a2 v aS ah⟩
def a0 (C : b1) (f : FuncId) (as : List j) (r : j) (outs : List j) : Prop :=
 ∀ (w : World) (F X : Nat → Prop) (S : Nat → Nat → Prop) (vs : List Value), vs.length = as.length → bU w F X F S (fP as) (ha vs) w →
   nk C.P f vs.toArray w fun v aS => ∃ bO aU, bU w F X bO aU (fP (r :: outs)) (ha (v :: vs)) aS
def j.res : j → Bool
 | .h _ _ => false
 | .ay _ _ => false
 | .U _ _ => false
 | .fn _ _ => false
 | _ => true
theorem E6 {d : j} (h : d.tree = true) : d.ab = [] := by cases d <;> first | rfl | (simp [j.tree] at h)
mutual
theorem A7 {s aC : ao} : ∀ (a : j) (d : j), (∀ u ∈ a.ab, (s u).tree = true → aC u = s u) → view s a = some d → view aC a = some d
 | .h x q, d, hu, h => by
   have a3 : (s x).tree = true := by
    simp only [view] at h
    split at h
    ·rename_i e eS
     cases e <;> simp only at h <;> first
      | (cases h; done)
      | (split at h
         ·cases h
         ·rename_i ay
          exact hX eS (.inl (by simpa using ay)))
    ·cases h
   simp only [view] at h ⊢
   rw [hu x (by simp [j.ab]) a3]; exact h
 | .ay x q, d, hu, h => by
   have a3 : (s x).tree = true := by
    simp only [view] at h
    split at h
    ·rename_i az
     split at h
     ·rename_i e eS; exact hX eS (.inr az)
     ·cases h
    ·cases h
   simp only [view] at h ⊢
   rw [hu x (by simp [j.ab]) a3]; exact h
 | .U x q, d, hu, h => by simp [view] at h
 | .fn f cap, d, hu, h => by
   simp only [view, Option.map_eq_some_iff] at h ⊢
   obtain ⟨ds, ag, ah⟩ := h
   exact ⟨ds, E7 cap ds (by simpa [j.ab] using hu) ag, ah⟩
 | .hole, d, hu, h => h
 | .bool _, d, hu, h => h
 | .eo, d, hu, h => h
 | .int _ _, d, hu, h => h
 | .str _, d, hu, h => h
 | .dj, d, hu, h => h
 | .af, d, hu, h => h
 | .slice _, d, hu, h => h
 | .ai _ _, d, hu, h => h
 | .ref _, d, hu, h => h
 | .aG _, d, hu, h => h
 | .agg _, d, hu, h => h
 | .tuple _, d, hu, h => h
theorem E7 {s aC : ao} : ∀ (as : List j) (ds : List j), (∀ u ∈ j.dV as, (s u).tree = true → aC u = s u) → views s as = some ds → views aC as = some ds
 | [], ds, hu, h => h
 | a :: as, ds, hu, h => by
   simp only [j.dV, List.mem_append] at hu
   simp only [views] at h ⊢
   split at h
   ·rename_i x y ag ah
    rw [A7 a x (fun u hm => hu u (.inl hm)) ag, E7 as y (fun u hm => hu u (.inr hm)) ah]; exact h
   ·cases h
end
section
variable {C : b1} {w0 w aS : World} {F0 X F Fc : Nat → Prop} {S : Nat → Nat → Prop} {s aC : ao} {aE jF : Nat → Value}
def MR (w : World) (F : Nat → Prop) (s : ao) (aE : Nat → Value) (p : cH) (v : Value) (mP : Nat → Prop) : Prop :=
 p.g = true → p.o = .hole ∨ ∃ x q I d0, p.a = .h x q ∧ j.sub q (s x) = some d0 ∧ c8 w q (s x) (cp (aE x)) none = some (d0, cp v, I) ∧ (s x).ab = [] ∧
  (q = [] → dT p.o (aE x)) ∧ (q ≠ [] → (s x).tree = true) ∧ p.o.fV = true ∧ ax w F p.o (cp v) mP ∧ p.o.wd = d0.wd ∧ ∀ v, h9 d0 v → h9 p.o v
theorem MS : ∀ (ps : List cH) (vs : List Value) (s : ao) (S mP : Nat → Nat → Prop), bU w0 F0 X F S s aE w → ps.length = vs.length →
  (∀ (i : Nat) (p : cH) (v : Value), ps[i]? = some p → vs[i]? = some v → MR w F s aE p v (mP i)) →
  (∀ i b, mP i b → b < w.heap.size ∧ ¬ F b ∧ (X b ∨ w0.heap.size ≤ b) ∧ ∀ u, ¬ S u b) → (∀ i aK b, i ≠ aK → mP i b → ¬ mP aK b) → hN ps = true →
  ∃ dA, bU w0 F0 X F dA (g_ s ps) aE w ∧ ∀ u b, dA u b → S u b ∨ ∃ i, mP i b := by
 intro ps
 induction ps with
 | nil => intro vs s S mP h _ _ _ _ _; exact ⟨S, h, fun u b U => .inl U⟩
 | cons p ps ih =>
   intro vs s S mP h hl A8 U ak j_
   cases vs with
   | nil => simp at hl
   | cons v vs =>
     simp only [List.length_cons, Nat.add_right_cancel_iff] at hl
     simp only [hN, Bool.and_eq_true, List.all_eq_true, Bool.or_eq_true, Bool.not_eq_true'] at j_
     obtain ⟨nj, mO⟩ := j_
     have sr : ∀ cl ∈ ps, (p.g = true ∨ cl.g = true) → ∀ u ∈ p.a.ab, u ∉ cl.a.ab := by
      intro cl dP bQ u hu
      rcases nj cl dP with e | e
      ·rcases bQ with bQ | bQ <;> simp [bQ] at e
      ·simpa using e u hu
     have skip : cH.iM s p = s → ∃ dA, bU w0 F0 X F dA (g_ s (p :: ps)) aE w ∧ ∀ u b, dA u b → S u b ∨ ∃ i, mP i b := by
      intro gd
      obtain ⟨dA, a8, bA⟩ := ih vs s S (fun i => mP (i + 1)) h hl (fun i cl fK ay aQ => A8 (i + 1) cl fK (by simpa using ay) (by simpa using aQ)) (fun i b h => U (i + 1) b h)
       (fun i aK b er => ak (i + 1) (aK + 1) b (by omega)) mO
      refine ⟨dA, ?_, fun u b hu => (bA u b hu).imp id fun ⟨i, au⟩ => ⟨i + 1, au⟩⟩
      show bU _ _ _ _ _ (g_ (cH.iM s p) ps) _ _
      rw [gd]; exact a8
     cases bQ : p.g with
     | false => exact skip (by simp [cH.iM, bQ])
     | true =>
       rcases A8 0 p v rfl rfl bQ with cr | ⟨x, q, I, d0, bX, bT, b4, E4, mb, pv, A9, MT, A_, MU⟩
       ·exact skip (by simp only [cH.iM, bQ, cr, if_true])
       ·obtain ⟨lj, mg, MV⟩ := pr A9
        have gd : cH.iM s p = dq (k8 x s) x (j.put q p.o (s x)) := by
         simp only [cH.iM, bQ, if_true, bX]
         cases MW : p.o <;> first | rfl | (rw [MW] at A9; simp [j.fV] at A9)
        have step := h.iM (x := x) (q := q) (bw := p.o) bT b4 MV (fun c9 => ⟨mg, mb c9⟩) (fun k r c9 => ⟨pv (by rw [c9]; simp), MU⟩) A_ MT
         (fun b h => (U 0 b h).1) (fun b h => (U 0 b h).2.1) (fun u b h => (U 0 b h).2.2.2 u) (fun b h => (U 0 b h).2.2.1)
        rw [← gd] at step
        obtain ⟨dA, a8, bA⟩ := ih vs (cH.iM s p) _ (fun i => mP (i + 1)) step hl (by
         intro i cl fK ay aQ g9
         have hm : cl ∈ ps := List.mem_of_getElem? ay
         rcases A8 (i + 1) cl fK (by simpa using ay) (by simpa using aQ) g9 with cr | ⟨y, iX, aa, d1, ch, cu, eF, dG, ff, ez, iL, dN, lf⟩
         ·exact .inl cr
         ·have er : y ≠ x := fun e => sr cl hm (.inl bQ) x (by rw [bX]; simp [j.ab]) (by rw [ch, e]; simp [j.ab])
          have ma : cH.iM s p y = s y := by
           rw [gd, jE _ _ er]
           exact AR _ (by rw [dG]; simp)
          exact .inr ⟨y, iX, aa, d1, ch, by rw [ma]; exact cu, by rw [ma]; exact eF, by rw [ma]; exact dG, ff, by rw [ma]; exact ez, iL, dN, lf⟩)
         (by
          intro i b au
          obtain ⟨ja, hq, hM, b3⟩ := U (i + 1) b au
          refine ⟨ja, hq, hM, fun u hu => ?_⟩
          simp only [gR] at hu
          split at hu
          ·rcases hu with hu | hu
           ·exact b3 _ hu
           ·exact ak 0 (i + 1) b (by omega) hu au
          ·exact b3 _ hu)
         (fun i aK b er => ak (i + 1) (aK + 1) b (by omega)) mO
        refine ⟨dA, a8, fun u b hu => ?_⟩
        rcases bA u b hu with hu | ⟨i, au⟩
        ·simp only [gR] at hu
         split at hu
         ·rename_i e; subst e
          exact hu.imp id fun h => ⟨0, h⟩
         ·exact .inl hu
        ·exact .inr ⟨i + 1, au⟩
def jr (ps : List cH) : Bool := ps.any fun p => !p.g && !p.a.ab.isEmpty
theorem E8 (h : bU w0 F0 X F S s aE w) {ps : List cH} {vs : List Value} {f : FuncId} {r : j} (hl : ps.length = vs.length)
  (iN : ∀ (i : Nat) (p : cH) (v : Value), ps[i]? = some p → vs[i]? = some v → p.a.plain = true ∧ aL w F s aE p.a v (fun _ => False))
  (fp : ∀ p ∈ ps, p.ok s) (j_ : hN ps = true) (bY : ∀ (Fc lk : Nat → Prop) (ep : Nat → Nat → Prop), (∀ b, F b → Fc b) → (∀ b, lk b → ∃ u, S u b) → bU w Fc lk Fc ep (fP (ps.map (·.d))) (ha vs) w →
   nk C.P f vs.toArray w fun v aS => ∃ bO aU, bU w Fc lk bO aU (fP (r :: ps.map (·.o))) (ha (v :: vs)) aS) (a2 : r.res = true)
  (bh : jr ps = true → r.dm = true ∧ ∀ p ∈ ps, p.o.dm = true) :
  nk C.P f vs.toArray w fun v aS => ∃ bO aU, bU w0 F0 X bO aU (g_ (eK s ps) ps) aE aS ∧ kq w0 X bO aU (g_ (eK s ps) ps) aE aS r v ∧ ∀ b, F b → bO b ∧ aS.heap[b]? = w.heap[b]? := by
 obtain ⟨Sn, b7, a8, bA, ct, dZ, e6, hy, iu, kM⟩ := MO ps vs s S h hl (fun i p v ay aQ => ⟨(iN i p v ay aQ).1, (iN i p v ay aQ).2, fun _ => fp p (List.mem_of_getElem? ay)⟩) j_
 have apart : ∀ (i aK : Nat) (p cl : cH), ps[i]? = some p → ps[aK]? = some cl → i ≠ aK → (p.g = true ∨ cl.g = true) → ∀ u ∈ p.a.ab, u ∉ cl.a.ab := by
  clear iN fp bY bh a8 ct dZ kM hl
  induction ps with
  | nil => intro i aK p cl ay; simp at ay
  | cons g5 ps ih =>
    simp only [hN, Bool.and_eq_true, List.all_eq_true, Bool.or_eq_true, Bool.not_eq_true'] at j_
    obtain ⟨nj, mO⟩ := j_
    have sr : ∀ cl ∈ ps, (g5.g = true ∨ cl.g = true) → ∀ u ∈ g5.a.ab, u ∉ cl.a.ab := by
     intro cl dP bQ u hu
     rcases nj cl dP with e | e
     ·rcases bQ with bQ | bQ <;> simp [bQ] at e
     ·simpa using e u hu
    intro i aK p cl ay dP er bQ u hu
    cases i with
    | zero =>
      simp at ay; subst ay
      cases aK with
      | zero => exact (er rfl).elim
      | succ aK => exact sr cl (List.mem_of_getElem? (by simpa using dP)) bQ u hu
    | succ i =>
      cases aK with
      | zero =>
        simp at dP; subst dP
        exact fun uB => sr p (List.mem_of_getElem? (by simpa using ay)) bQ.symm u uB hu
      | succ aK => exact ih mO i aK p cl (by simpa using ay) (by simpa using dP) (by omega) bQ u hu
 let Fc : Nat → Prop := fun b => F b ∨ (jr ps = true ∧ ∃ u, b7 u b)
 let lk : Nat → Prop := fun b => ∃ i, Sn i b
 have Ba : ∀ b, F b → ¬ lk b := fun b bE ⟨i, au⟩ => by obtain ⟨u, hu⟩ := e6 i b au; exact h.ga u b hu bE
 have uC : ∀ u b, b7 u b → ¬ lk b := fun u b hu ⟨i, au⟩ => hy i u b au hu
 have xj : ∀ b, lk b → (X b ∨ w0.heap.size ≤ b) ∧ b < w.heap.size := fun b ⟨i, au⟩ => by obtain ⟨u, hu⟩ := e6 i b au; exact ⟨h.dW u b hu, h.eX u b hu⟩
 have pre : bU w Fc lk Fc Sn (fP (ps.map (·.d))) (ha vs) w := by
  refine ⟨fun _ h => h, fun _ h => .inl h, ?_, fun i b au => (xj b ⟨i, au⟩).2, ?_, fun i aK b er => iu i aK b er, fun i b au => .inl ⟨i, au⟩, ?_, fun _ _ _ => rfl, Nat.le_refl _, rfl, rfl, rfl⟩
  ·rintro b (U | ⟨_, u, hu⟩)
   ·exact h.fU b U
   ·exact a8.eX u b hu
  ·rintro i b au (U | ⟨_, u, hu⟩)
   ·exact Ba b U ⟨i, au⟩
   ·exact hy i u b au hu
  ·intro t
   cases ay : ps[t]? with
   | none =>
     have : fP (ps.map (·.d)) t = .hole := by simp [fP, List.getD, ay]
     rw [this, aL]; trivial
   | some p =>
     have eC : t < vs.length := by rw [← hl]; exact (List.getElem?_eq_some_iff.1 ay).1
     have aQ : vs[t]? = some vs[t] := List.getElem?_eq_getElem eC
     have a1 : fP (ps.map (·.d)) t = p.d := by simp [fP, List.getD, ay]
     have bg : ha vs t = vs[t] := by simp [ha, List.getD, aQ]
     rw [a1, bg]
     have hm : p ∈ ps := List.mem_of_getElem? ay
     have aB := fp p hm
     cases bQ : p.g with
     | true =>
       obtain ⟨x, q, I, ch, cu, eF, dG, ff, ez, iL, dN⟩ := ct t p _ ay aQ bQ
       simp only [cH.ok, bQ, if_true, ch] at aB
       exact (aL.cJ (pr aB.2.1).2.1).2 ⟨iL, ax.mono (fun b U => .inl U) _ _ _ _ (fun _ h => h) dN⟩
     | false =>
       simp only [cH.ok, bQ] at aB
       obtain ⟨f1, f2⟩ := iN t p _ ay aQ
       have E9 : ∀ cl ∈ ps, cl.g = true → ∀ u ∈ cl.a.ab, u ∉ p.a.ab := by
        intro cl dP g9 u hu
        obtain ⟨aK, cS⟩ := List.getElem?_of_mem dP
        refine apart aK t cl p cS ay (fun e => ?_) (.inl g9) u hu
        subst e; rw [ay] at cS; simp only [Option.some.injEq] at cS; rw [cS, g9] at bQ; cases bQ
       have xi := kM _ _ _ E9 f2
       have j8 : view (eK s ps) p.a = some p.d := A7 _ _ (fun u hu a3 => A4 (E6 a3) (fun cl dP g9 uB => E9 cl dP g9 u uB hu)) (by simpa using aB)
       refine aL.nothing (MI f1 j8) ((MK a8 (Fc := Fc) (fun b U => .inl U) (SizeOf.sizeOf p.a)).1 p.a _ p.d (Nat.le_refl _) ?_ j8 xi)
       intro u hu b U
       refine .inr ⟨?_, u, U⟩
       simp only [jr, List.any_eq_true]
       refine ⟨p, hm, ?_⟩
       cases kJ : p.a.ab with
       | nil => rw [kJ] at hu; cases hu
       | cons _ _ => simp [bQ]
 refine nk.mono (bY Fc lk Sn (fun b U => .inl U) (fun b ⟨i, au⟩ => e6 i b au) pre) ?_
 rintro v aS ⟨bO, aU, az⟩
 have gp : ∀ b, b < w.heap.size → ¬ lk b → aS.heap[b]? = w.heap[b]? := az.old
 let nm : Nat → Prop := fun b => if jr ps = true then F b else bO b
 have E_ : ∀ b, F b → bO b := fun b U => az.hp b (.inl U)
 have su : ∀ b, F b → nm b := fun b U => by
  simp only [nm]; split
  ·exact U
  ·exact E_ b U
 have uD : ∀ b, nm b → bO b := fun b U => by
  simp only [nm] at U; split at U
  ·exact E_ b U
  ·exact U
 have Fa : ∀ b, nm b → F b ∨ lk b ∨ w.heap.size ≤ b := fun b U => by
  simp only [nm] at U; split at U
  ·exact .inl U
  ·rename_i pk
   rcases az.hJ b U with (U | ⟨ag, _⟩) | U | U
   ·exact .inl U
   ·exact (pk ag).elim
   ·exact .inr (.inl U)
   ·exact .inr (.inr U)
 have mid : bU w0 F0 X nm b7 (eK s ps) aE aS := by
  refine ⟨fun b U => su b (a8.hp b U), ?_, fun b U => az.fU b (uD b U), fun t b U => Nat.lt_of_lt_of_le (a8.eX t b U) az.size, ?_, a8.fJ, a8.dW, ?_, ?_, Nat.le_trans a8.size az.size, az.os.trans a8.os, az.tape.trans a8.tape, az.output.trans a8.output⟩
  ·intro b U
   rcases Fa b U with U | U | U
   ·exact a8.hJ b U
   ·rcases (xj b U).1 with h | h
    ·exact .inr (.inl h)
    ·exact .inr (.inr h)
   ·exact .inr (.inr (Nat.le_trans a8.size U))
  ·intro t b a3 U
   rcases Fa b U with U | U | U
   ·exact a8.ga t b a3 U
   ·exact uC t b a3 U
   ·exact absurd (a8.eX t b a3) (by omega)
  ·intro t
   exact aL.frame (Sx := b7) (fun b U => gp b (h.fU b U) (Ba b U)) su (fun x b U => gp b (a8.eX x b U) (uC x b U)) a8.dJ _ _ _ (fun b U => gp b (a8.eX t b U) (uC t b U)) (a8.dJ t)
  ·intro b U kp
   refine (gp b (Nat.lt_of_lt_of_le U a8.size) fun aw => ?_).trans (a8.old b U kp)
   rcases (xj b aw).1 with h | h
   ·exact kp h
   ·omega
 have Fb : ∀ (d : j) (cs : List Value) (dW : Nat → Prop), (jr ps = true → d.dm = true) → ax aS bO d cs dW → ax aS nm d cs dW := by
  intro d cs dW AL hr
  by_cases hle : jr ps = true
  ·exact ax.dm d cs dW (AL hle) hr
  ·exact ax.mono (fun b U => by simp only [nm]; rw [if_neg hle]; exact U) _ _ _ _ (fun _ h => h) hr
 have bound : ∀ i b, aU i b → b < aS.heap.size ∧ ¬ nm b ∧ (X b ∨ w0.heap.size ≤ b) ∧ ∀ u, ¬ b7 u b := by
  intro i b U
  refine ⟨az.eX i b U, fun bE => az.ga i b U (uD b bE), ?_, fun u hu => ?_⟩
  ·rcases az.dW i b U with aw | aw
   ·exact (xj b aw).1
   ·exact .inr (Nat.le_trans a8.size aw)
  ·rcases az.dW i b U with aw | aw
   ·exact uC u b hu aw
   ·exact absurd (a8.eX u b hu) (by omega)
 obtain ⟨dA, ch, cu⟩ := MS ps vs (eK s ps) b7 (fun i => aU (i + 1)) mid hl (by
  intro i p fK ay aQ bQ
  have hm : p ∈ ps := List.mem_of_getElem? ay
  have aB := fp p hm
  obtain ⟨x, q, I, a1, bg, bf, cn, c3, b_, bV, hK⟩ := ct i p fK ay aQ bQ
  simp only [cH.ok, bQ, if_true, a1] at aB
  rcases aB.2.2 with cr | cr
  ·exact .inl cr
  ·obtain ⟨eY, l2, Bb⟩ := ML aB.2.1 cr.1 cr.2
   refine .inr ⟨x, q, I, p.d.c0, a1, bg, ?_, cn, fun c9 => l2 _ (c3 c9), b_, cr.1, ?_, eY.trans (j.pd _).symm, Bb⟩
   ·cases q with
    | nil => simpa only [c8] using bf
    | cons k q =>
      have a3 := b_ (by simp)
      rw [z_ (k :: q) _ _ (b7 x) none _ ((aL.cJ a3).1 (a8.dJ x)).2 bg (fun b U => gp b (a8.eX x b U) (uC x b U))]
      exact bf
   ·have := az.dJ (i + 1)
    have g7 : fP (r :: ps.map (·.o)) (i + 1) = p.o := by simp [fP, List.getD, ay]
    have jH : ha (v :: vs) (i + 1) = fK := by simp [ha, List.getD, aQ]
    rw [g7, jH] at this
    exact Fb _ _ _ (fun hle => (bh hle).2 p hm) ((aL.cJ (pr cr.1).2.1).1 this).2)
  (fun i b U => bound (i + 1) b U) (fun i aK b er => az.fJ (i + 1) (aK + 1) b (by omega)) j_
 refine ⟨nm, dA, ch, ?_, fun b U => ⟨su b U, gp b (h.fU b U) (Ba b U)⟩⟩
 have bM := az.dJ 0
 have g7 : fP (r :: ps.map (·.o)) 0 = r := rfl
 have jH : ha (v :: vs) 0 = v := rfl
 rw [g7, jH] at bM
 cases a3 : r.tree with
 | false =>
   cases r <;> first
    | (simp [j.tree] at a3; done)
    | (simp [j.res] at a2; done)
    | exact .inl ⟨rfl, by rw [aL]; trivial⟩
 | true =>
   obtain ⟨s1, s2⟩ := (aL.cJ a3).1 bM
   have gf := Fb _ _ _ (fun hle => (bh hle).1) s2
   refine .inr ⟨a3, s1, aU 0, gf, fun b U => (bound 0 b U).1, fun b U => (bound 0 b U).2.1, fun u b U hu => ?_, fun b U => (bound 0 b U).2.2.1⟩
   rcases cu u b hu with hu | ⟨i, au⟩
   ·exact (bound 0 b U).2.2.2 u hu
   ·exact az.fJ 0 (i + 1) b (by omega) U au
theorem MX (h : bU w0 F0 X F S s aE w) {ps : List cH} {vs : List Value} {f : FuncId} {r : j} (hl : ps.length = vs.length)
  (iN : ∀ (i : Nat) (p : cH) (v : Value), ps[i]? = some p → vs[i]? = some v → p.a.plain = true ∧ aL w F s aE p.a v (fun _ => False))
  (fp : ∀ p ∈ ps, p.ok s) (j_ : hN ps = true) (bY : a0 C f (ps.map (·.d)) r (ps.map (·.o))) (a2 : r.res = true)
  (bh : jr ps = true → r.dm = true ∧ ∀ p ∈ ps, p.o.dm = true) :
  nk C.P f vs.toArray w fun v aS => ∃ bO aU, bU w0 F0 X bO aU (g_ (eK s ps) ps) aE aS ∧ kq w0 X bO aU (g_ (eK s ps) ps) aE aS r v ∧ ∀ b, F b → bO b ∧ aS.heap[b]? = w.heap[b]? :=
 E8 h hl iN fp j_ (fun Fc lk ep _ _ ay => bY w Fc lk ep vs (by simp [hl]) ay) a2 bh
end
structure cA where
 dst : Option Nat
 bz : fy
 guard : Option (Nat × Bool)
def uE (ops : Array Oper) : Option (Nat × Bool) → Option (Option (Nat × Bool))
 | none => some none
 | some (aK, b) => match (ops[aK]?).bind (·.dst) with
   | some t => some (some (t, b))
   | none => none
structure Fr where
 n : Nat
 fx : List Nat
def ll (n : Fr) : Option Nat → Bool
 | none => true
 | some t => decide (t < n.n) && !n.fx.contains t
def pw (op : Op) : fy := match dt op with
 | some bz => bz
 | none => .bad
def n7 (n : Fr) (ops : Array Oper) (o : Oper) : Option cA :=
 if ll n o.dst = true then match uE ops o.guard with
  | some g => some ⟨o.dst, pw o.op, g⟩
  | none => none
 else none
def n8 (n : Fr) (ops : Array Oper) : List Oper → Option (List cA)
 | [] => some []
 | o :: os => match n7 n ops o, n8 n ops os with
   | some r, some rs => some (r :: rs)
   | _, _ => none
def xk (C : b1) (s : ao) (f : aH) (args : List aH) (K : j → ao → Prop) : Prop :=
 ∃ (g : FuncId) (caps : List j) (ps : List cH) (r : j), aI s f = .fn g caps ∧ j.d_ caps = true ∧ ps.map (·.a) = args.map (aI s) ++ caps ∧ (∀ p ∈ ps, p.ok s) ∧ hN ps = true ∧
   a0 C g (ps.map (·.d)) r (ps.map (·.o)) ∧ r.res = true ∧ (jr ps = true → r.dm = true ∧ ∀ p ∈ ps, p.o.dm = true) ∧ K r (g_ (eK s ps) ps)
mutual
def j.fh (s : ao) : j → Bool
 | .h x q => q.isEmpty && (s x).own
 | .U x _ => !(s x).plain
 | .ay _ _ => false
 | .hole => true
 | .fn _ cap => j.mQ s cap
 | d => d.plain
def j.mQ (s : ao) : List j → Bool
 | [] => true
 | d :: ds => d.fh s && j.mQ s ds
end
def lQ (s : ao) : List (Nat × j) → ao
 | [] => s
 | p :: L => lQ (dq s p.1 p.2) L
def ky (s : ao) : List (Nat × j) → Bool
 | [] => true
 | p :: L => p.2.fh s && ky s L
def iO (s : ao) (us : List Nat) : List (Nat × j) := us.map fun u => (u, s u)
def mR (C : b1) (s : ao) (bz : fy) (K : j → ao → Prop) : Prop :=
 match bz with
 | .call f args => ∃ (g : FuncId) (caps : List j) (ps : List cH) (r : j), aI s f = .fn g caps ∧ j.d_ caps = true ∧ ps.map (·.a) = args.map (aI s) ++ caps ∧ (∀ p ∈ ps, p.ok s) ∧ hN ps = true ∧
   a0 C g (ps.map (·.d)) r (ps.map (·.o)) ∧ r.res = true ∧ (jr ps = true → r.dm = true ∧ ∀ p ∈ ps, p.o.dm = true) ∧ K r (g_ (eK s ps) ps)
 | .shr bz => ∃ av s1, bD C s bz = some (av, s1) ∧ av.tree = true ∧ (∀ vs, av ≠ .tuple vs) ∧ K av.share s1
 | .lM f args u x => s u = .h x [] ∧ (s x).own = true ∧ xk C s f args fun av s1 => s1 u = .hole ∧ (s1 x).own = true ∧ K av (dq s1 u (.h x []))
 | .kv f args us => ky s (iO s us) = true ∧ xk C s f args fun av s1 => ky s1 (iO s us) = true ∧ K av (lQ s1 (iO s us))
 | bz => ∃ av s1, bD C s bz = some (av, s1) ∧ K av s1
theorem xl {C : b1} {s : ao} {bz : fy} {K df : j → ao → Prop} (h : mR C s bz K) (aB : ∀ av s, K av s → df av s) : mR C s bz df := by
 cases bz with
 | call f args =>
   obtain ⟨g, caps, ps, r, ag, fq, ah, aM, bd, bI, cx, cy, eB⟩ := h
   exact ⟨g, caps, ps, r, ag, fq, ah, aM, bd, bI, cx, cy, aB _ _ eB⟩
 | shr bz =>
   obtain ⟨av, s1, ag, ah, aM, bd⟩ := h
   exact ⟨av, s1, ag, ah, aM, aB _ _ bd⟩
 | lM f args u x =>
   obtain ⟨ch, cu, g, caps, ps, r, ag, fq, ah, aM, bd, bI, cx, cy, eB, iq, hk⟩ := h
   exact ⟨ch, cu, g, caps, ps, r, ag, fq, ah, aM, bd, bI, cx, cy, eB, iq, aB _ _ hk⟩
 | kv f args us =>
   obtain ⟨cu, g, caps, ps, r, ag, fq, ah, aM, bd, bI, cx, cy, eB, iq⟩ := h
   exact ⟨cu, g, caps, ps, r, ag, fq, ah, aM, bd, bI, cx, cy, eB, aB _ _ iq⟩
 | _ =>
   obtain ⟨av, s1, ag, ah⟩ := h
   exact ⟨av, s1, ag, aB _ _ ah⟩
def kR (C : b1) (s : ao) (o : cA) (K : ao → Prop) : Prop :=
 match o.guard with
 | none => mR C s o.bz fun av s1 => K (fin s1 o.dst av)
 | some (t, b) => match s t with
   | .bool fl => if fl = b then mR C s o.bz (fun av s1 => K (fin s1 o.dst av)) else K (fin s o.dst (.tuple []))
   | .tuple [] => K (fin s o.dst (.tuple []))
   | _ => False
def kz (C : b1) (s : ao) : List cA → (ao → Prop) → Prop
 | [], K => K s
 | o :: os, K => kR C s o fun s1 => kz C s1 os K
def ig (C : b1) (ros : List cA) (s : ao) : List Nat → (ao → Prop) → Prop
 | [], K => K s
 | i :: l, K => match ros[i]? with
   | none => ig C ros s l K
   | some o => kR C s o fun s1 => ig C ros s1 l K
theorem MY (C : b1) (K : ao → Prop) : ∀ (rs pre : List cA) (s : ao), kz C s rs K → ig C (pre ++ rs) s ((List.range rs.length).map (· + pre.length)) K := by
 intro rs
 induction rs with
 | nil => intro pre s h; exact h
 | cons r rs ih =>
   intro pre s h
   rw [List.length_cons, List.range_succ_eq_map, List.map_cons, List.map_map]
   simp only [ig, Nat.zero_add]
   rw [List.getElem?_append_right (Nat.le_refl _)]
   simp only [Nat.sub_self, List.getElem?_cons_zero]
   have key : ∀ s1, kz C s1 rs K → ig C (pre ++ r :: rs) s1 ((List.range rs.length).map ((fun x => x + pre.length) ∘ Nat.succ)) K := by
    intro s1 ag
    have := ih (pre ++ [r]) s1 ag
    simp only [List.append_assoc, List.singleton_append, List.length_append, List.length_singleton] at this
    have e : ((fun x => x + pre.length) ∘ Nat.succ) = fun x => x + (pre.length + 1) := by funext x; simp; omega
    rw [e]; exact this
   simp only [kz] at h
   unfold kR at h ⊢
   split
   ·rename_i bQ; rw [bQ] at h; exact xl h fun av s1 => key _
   ·rename_i t b bQ
    rw [bQ] at h
    simp only at h
    split
    ·rename_i fl ab
     rw [ab] at h
     simp only at h
     split
     ·rename_i U; rw [if_pos U] at h; exact xl h fun av s1 => key _
     ·rename_i U; rw [if_neg U] at h; exact key _ h
    ·rename_i ab; rw [ab] at h; exact key _ h
    ·rename_i ag ah
     split at h
     ·exact ag _ (by assumption)
     ·exact ah (by assumption)
     ·exact h
structure Rel (w0 : World) (F0 X : Nat → Prop) (n : Fr) (ρ : Nat → Value) (s : ao) (a : Act) (w : World) : Prop where
 defers : a.defers = []
 size : a.tmps.size = n.n
 fixed : ∀ i ∈ n.fx, a.tmps.getD i undef = ρ i
 rel : ∃ F S, bU w0 F0 X F S s (fun t => a.tmps.getD t undef) w
section
variable {C : b1} {w0 w : World} {F0 X : Nat → Prop} {n : Fr} {ρ : Nat → Value} {s s1 : ao} {a : Act} {av : j} {Q : Exit → Act → World → Prop}
theorem Bc {dst : Option Nat} (v : Value) (ab : a.tmps.size = n.n) (ak : ll n dst = true) :
  (fun t => (a.put dst v).tmps.getD t undef) = qB (fun t => a.tmps.getD t undef) dst v ∧ (a.put dst v).tmps.size = n.n ∧ (a.put dst v).defers = a.defers := by
 cases dst with
 | none => exact ⟨rfl, ab, rfl⟩
 | some d =>
   simp only [ll, Bool.and_eq_true, decide_eq_true_eq] at ak
   refine ⟨?_, by simp [Act.put, ab], rfl⟩
   funext t
   simp only [Act.put, qB, dq, Array.getD_eq_getD_getElem?]
   by_cases h : t = d
   ·subst h
    rw [if_pos rfl, Array.getElem?_setIfInBounds_self_of_lt (by omega)]; rfl
   ·rw [if_neg h, Array.getElem?_setIfInBounds_ne (fun e => h e.symm)]
theorem Rel.put {F S} (ak : a.defers = []) (ab : a.tmps.size = n.n) (bY : ∀ i ∈ n.fx, a.tmps.getD i undef = ρ i) {aS : World} (a2 : bU w0 F0 X F S s (fun t => a.tmps.getD t undef) aS) {v : Value} (aQ : kq w0 X F S s (fun t => a.tmps.getD t undef) aS av v)
  {dst : Option Nat} (fp : ll n dst = true) : Rel w0 F0 X n ρ (fin s dst av) (a.put dst v) aS := by
 obtain ⟨a1, bg, bf⟩ := Bc (n := n) (dst := dst) v ab fp
 obtain ⟨aU, bN⟩ := a2.fin aQ dst
 refine ⟨bf.trans ak, bg, fun i au => ?_, F, aU, by rw [a1]; exact bN⟩
 rw [congrFun a1 i]
 cases dst with
 | none => exact bY i au
 | some d =>
   simp only [ll, Bool.and_eq_true, Bool.not_eq_true', List.contains_eq_mem, decide_eq_false_iff_not] at fp
   have er : i ≠ d := fun e => fp.2 (by rw [← e]; exact au)
   simp only [qB]
   rw [jE _ _ er]
   exact bY i au
theorem Rel.skip (h : Rel w0 F0 X n ρ s a w) {dst : Option Nat} (fp : ll n dst = true) : Rel w0 F0 X n ρ (fin s dst (.tuple [])) (a.put dst undef) w := by
 obtain ⟨ak, ab, bY, F, S, a2⟩ := h
 refine Rel.put (av := .tuple []) ak ab bY a2 (.inl ⟨rfl, (aL.cJ (d := .tuple []) rfl).2 ⟨?_, ?_⟩⟩) fp
 ·exact ⟨#[], rfl, rfl, fun k d x aB => by simp at aB⟩
 ·rw [ax, ba]; rfl
theorem Fe {F : Nat → Prop} {aE : Nat → Value} {w : World} : ∀ {ds es : List j} {vs us : List Value}, dM w F s aE ds vs → dM w F s aE es us → dM w F s aE (ds ++ es) (vs ++ us) := by
 intro ds
 induction ds with
 | nil => intro es vs us ag ah; rw [dM] at ag; subst ag; exact ah
 | cons d ds ih =>
   intro es vs us ag ah
   rw [dM] at ag
   obtain ⟨v, i9, rfl, a8, bA⟩ := ag
   rw [List.cons_append, List.cons_append, dM]
   exact ⟨v, _, rfl, a8, ih bA ah⟩
theorem Ff {F : Nat → Prop} {aE : Nat → Value} {w : World} : ∀ {ds : List j} {vs : List Value}, dM w F s aE ds vs → ds.length = vs.length ∧ ∀ (i : Nat) (d : j) (v : Value), ds[i]? = some d → vs[i]? = some v → aL w F s aE d v (fun _ => False) := by
 intro ds
 induction ds with
 | nil => intro vs h; rw [dM] at h; subst h; exact ⟨rfl, fun i d v h => by simp at h⟩
 | cons d ds ih =>
   intro vs h
   rw [dM] at h
   obtain ⟨v, i9, rfl, a8, bA⟩ := h
   obtain ⟨ch, cu⟩ := ih bA
   refine ⟨by simp [ch], fun i bw fK ak aQ => ?_⟩
   cases i with
   | zero => simp at ak aQ; subst ak aQ; exact a8
   | succ i => exact cu i bw fK (by simpa using ak) (by simpa using aQ)
theorem n9 {op : Op} {bz : fy} (h : pw op = bz) : bz = .bad ∨ dt op = some bz := by
 unfold pw at h
 split at h
 ·subst h; right; assumption
 ·exact .inl h.symm
theorem MZ {op : Op} {bz : fy} : dt op ≠ some (.shr bz) := by
 intro h
 unfold dt at h
 split at h <;> (try split at h) <;> (try split at h) <;> (try split at h) <;> (try simp [Option.map_eq_some_iff] at h)
theorem M0 {op : Op} {f : aH} {args : List aH} {u x : Nat} : dt op ≠ some (.lM f args u x) := by
 intro h
 unfold dt at h
 split at h <;> (try split at h) <;> (try split at h) <;> (try split at h) <;> (try simp [Option.map_eq_some_iff] at h)
theorem M1 {op : Op} {f : aH} {args : List aH} {us : List Nat} : dt op ≠ some (.kv f args us) := by
 intro h
 unfold dt at h
 split at h <;> (try split at h) <;> (try split at h) <;> (try split at h) <;> (try simp [Option.map_eq_some_iff] at h)
theorem M3 {op : Op} {T : TypeId} {x : aH} : dt op ≠ some (.hL T x) := by
 intro h
 unfold dt at h
 split at h <;> (try split at h) <;> (try split at h) <;> (try split at h) <;> (try simp [Option.map_eq_some_iff] at h)
theorem M4 {op : Op} {x : aH} : dt op ≠ some (.lN x) := by
 intro h
 unfold dt at h
 split at h <;> (try split at h) <;> (try split at h) <;> (try split at h) <;> (try simp [Option.map_eq_some_iff] at h)
theorem M5 {op : Op} {x : aH} : dt op ≠ some (.kO x) := by
 intro h
 unfold dt at h
 split at h <;> (try split at h) <;> (try split at h) <;> (try split at h) <;> (try simp [Option.map_eq_some_iff] at h)
theorem M6 {op : Op} {x : aH} (h : dt op = some (.ae x)) : ∃ cO, op = .move cO ∧ dF cO = some x := by
 unfold dt at h
 split at h <;> (try split at h) <;> (try split at h) <;> (try split at h) <;> (try simp [Option.map_eq_some_iff] at h)
 exact ⟨_, rfl, h⟩
theorem M7 {op : Op} {x : aH} (h : dt op = some (.an x)) : ∃ cO, op = .assign cO ∧ dF cO = some x := by
 unfold dt at h
 split at h <;> (try split at h) <;> (try split at h) <;> (try split at h) <;> (try simp [Option.map_eq_some_iff] at h)
 exact ⟨_, rfl, h⟩
theorem M8 {op : Op} {T bJ : TypeId} {x y : aH} : dt op ≠ some (.ic T bJ x y) := by
 intro h
 unfold dt at h
 split at h <;> (try split at h) <;> (try split at h) <;> (try split at h) <;> (try simp [Option.map_eq_some_iff] at h)
theorem M9 {op : Op} {T bJ : TypeId} {x y : aH} (h : dt op = some (.app T bJ x y)) : ∃ a b, op = .call ⟨.builtin .append, #[a, b], #[T, bJ]⟩ ∧ dF a = some x ∧ dF b = some y := by
 cases op with
 | call c =>
   obtain ⟨callee, args, argTypes⟩ := c
   simp only [dt] at h
   split at h
   ·split at h <;> simp at h
   ·split at h <;> simp at h
   ·split at h <;> simp at h
   ·(split at h <;> try split at h) <;> simp at h
   ·(split at h <;> try split at h) <;> simp at h
   ·split at h
    ·rename_i a b Bd xh lO qT
     split at h
     ·rename_i cO j5 aw bL
      simp only [Option.some.injEq, fy.app.injEq] at h
      obtain ⟨rfl, rfl, rfl, rfl⟩ := h
      refine ⟨a, b, ?_, aw, bL⟩
      have a1 : args = #[a, b] := by apply Array.ext'; exact lO
      have bg : argTypes = #[Bd, xh] := by apply Array.ext'; exact qT
      subst a1 bg
      rfl
     ·cases h
    ·cases h
   ·cases h
 | makeFunc fn first cs =>
   cases fn <;> simp only [dt] at h <;> first | (cases h; done) | (split at h <;> simp at h)
 | slice T x cW au im =>
   cases im <;> simp only [dt] at h <;> first | (cases h; done) | (split at h <;> simp at h)
 | _ => simp only [dt] at h <;> first | (cases h; done) | (simp at h; done) | (split at h <;> simp at h)
theorem bU.alias {F : Nat → Prop} {S : Nat → Nat → Prop} {aE : Nat → Value} {u x : Nat} (h : bU w0 F0 X F S s aE w) (hu : s u = .hole) (aw : (s x).own = true) (aQ : cp (aE u) = cp (aE x)) (ag : Value.gw (aE u) = true) :
  bU w0 F0 X F (gR S u (fun _ => False)) (dq s u (.h x [])) aE w := by
 have ej : dq aE u (aE u) = aE := by funext y; simp only [dq]; split <;> simp_all
 have := h.tM (t := u) (d := .h x []) (v := aE u) rfl (by
  rw [aL]
  intro d ak ay
  simp only [j.sub, Option.some.injEq] at ak
  subst ak
  exact ⟨cp (aE x), none, rfl, aQ, ((oL aw).2.2.2.2.2 _).2 ag⟩)
 rwa [ej] at this
theorem kq.less {F : Nat → Prop} {S aU : Nat → Nat → Prop} {aE : Nat → Value} {s1 : ao} {v : Value} (b9 : ∀ u b, aU u b → S u b) (a2 : av.res = true) (h : kq w0 X F S s aE w av v) : kq w0 X F aU s1 aE w av v := by
 rcases h with ⟨ag, ah⟩ | ⟨ag, ah, Sn, aM, bd, bI, cx, cy⟩
 ·refine .inl ⟨ag, ?_⟩
  cases av <;> first
   | (simp [j.res] at a2; done)
   | (rw [aL]; trivial)
   | (rw [aL] at ah ⊢; exact ah)
 ·exact .inr ⟨ag, ah, Sn, aM, bd, bI, fun u b U hu => cx u b U (b9 u b hu), cy⟩
theorem Be (bt : C.eO) (h : Rel w0 F0 X n ρ s a w) {o : Oper} {f : aH} {args : List aH} (cB : dt o.op = some (.call f args)) (ak : ll n o.dst = true) {K : j → ao → Prop} {L : ao → Prop} {next : Act → World → Prop}
  (hw : xk C s f args K) (qY : ∀ F S bO aU w aS av s1 v, bU w0 F0 X F S s (fun t => a.tmps.getD t undef) w → K av s1 → av.res = true → bU w0 F0 X bO aU s1 (fun t => a.tmps.getD t undef) aS → kq w0 X bO aU s1 (fun t => a.tmps.getD t undef) aS av v → (∀ b, F b → bO b ∧ aS.heap[b]? = w.heap[b]?) →
   ∃ s2 dA, L (fin s2 o.dst av) ∧ bU w0 F0 X bO dA s2 (fun t => a.tmps.getD t undef) aS ∧ kq w0 X bO dA s2 (fun t => a.tmps.getD t undef) aS av v)
  (bh : ∀ aC cN aS, L aC → Rel w0 F0 X n ρ aC cN aS → next cN aS) : o.wp C.P a w next Q := by
 have oM := h
 obtain ⟨iy, ef, hb, F, S, a2⟩ := h
 obtain ⟨g, caps, ps, r, ag, fq, ah, aM, bd, bI, cx, cy, eB⟩ := hw
 obtain ⟨dst, op, ty, pos, after, guard⟩ := o
 simp only at cB ak qY
 cases op with
 | call c =>
   obtain ⟨callee, nn, argTypes⟩ := c
   simp only [dt] at cB
   split at cB
   ·split at cB
    ·rename_i uF _ _ M_ xs bY n6
     simp only [Option.some.injEq, fy.call.injEq] at cB
     obtain ⟨rfl, rfl⟩ := cB
     obtain ⟨f1, f2⟩ := fm a2 (fun _ => rfl) bY
     rw [ag, aL] at f2
     obtain ⟨arr, f3, f4⟩ := f2
     have qZ : execOp a.eval { dst, op := .call { callee := .value uF, args := nn, argTypes }, type := ty, pos, after, guard } = callFunc g ((nn.toList.map a.eval ++ arr.toList).toArray) := by
      have : a.eval uF = .func (.func g) #[] arr := f3
      simp only [execOp, resolve, this, Deferred.ofValue, pure_bind, invoke]
      congr 1
      apply Array.ext'; simp
     unfold Oper.wp
     rw [qZ]
     have uG : dM w F s (fun t => a.tmps.getD t undef) (xs.map (aI s) ++ caps) (nn.toList.map a.eval ++ arr.toList) := Fe (xe a2 (fun _ => rfl) _ _ (qS n6)) f4
     rw [← ah] at uG
     obtain ⟨eY, l2⟩ := Ff uG
     have gG : ∀ d ∈ xs.map (aI s) ++ caps, d.plain = true := by
      intro d ak
      rcases List.mem_append.1 ak with ak | ak
      ·obtain ⟨x, aw, rfl⟩ := List.mem_map.1 ak
       exact DS s x fun av e => by
        subst e
        have hm := qS n6
        have : some (aH.c av) ∈ xs.map some := List.mem_map.2 ⟨_, aw, rfl⟩
        rw [← hm] at this
        obtain ⟨o, _, cr⟩ := List.mem_map.1 this
        cases o with
        | const v => simp only [dF, Option.map_eq_some_iff] at cr; obtain ⟨c, az, e⟩ := cr; cases e; exact Aj az
        | tmp n => simp [dF] at cr
        | func g => simp [dF] at cr
        | global g => simp [dF] at cr
      ·obtain ⟨k, aB⟩ := List.getElem?_of_mem ak
       exact wR fq aB
     have Bf := MX (C := C) a2 (ps := ps) (vs := nn.toList.map a.eval ++ arr.toList) (f := g) (r := r) (by simpa using eY)
      (fun i p v ay aQ => ⟨gG p.a (by rw [← ah]; exact List.mem_map.2 ⟨p, List.mem_of_getElem? ay, rfl⟩), l2 i p.a v (by simp [ay]) aQ⟩) aM bd bI cx cy
     rcases Bf with ⟨eE, fN⟩ | ⟨v, aS, eE, bO, aU, fN, kL, k_⟩
     ·rw [eE, Oper.upon_enter]
      refine Calls.mono fN ?_
      rintro e aS ⟨v, rfl, bO, aU, ch, cu, eF⟩
      obtain ⟨s2, dA, fg, gy, iv⟩ := qY _ _ _ _ _ _ _ _ _ a2 eB cx ch cu eF
      exact bh _ _ _ fg (Rel.put iy ef hb gy iv ak)
     ·rw [eE, Oper.upon_value]
      obtain ⟨s2, dA, fg, gy, iv⟩ := qY _ _ _ _ _ _ _ _ _ a2 eB cx fN kL k_
      exact bh _ _ _ fg (Rel.put iy ef hb gy iv ak)
    ·cases cB
   ·split at cB
    ·simp only [Option.map_eq_some_iff] at cB; obtain ⟨_, _, cB⟩ := cB; cases cB
    ·cases cB
   ·split at cB
    ·simp only [Option.map_eq_some_iff] at cB; obtain ⟨_, _, cB⟩ := cB; cases cB
    ·cases cB
   iterate 3
    ·split at cB
     ·split at cB <;> cases cB
     ·cases cB
   ·cases cB
 | makeFunc fn first cs =>
   cases fn <;> simp only [dt] at cB <;> first | (cases cB; done) | (split at cB <;> simp at cB)
 | slice T x cW au im =>
   cases im <;> simp only [dt] at cB <;> first | (cases cB; done) | (split at cB <;> simp at cB)
 | _ => simp only [dt] at cB <;> first | (cases cB; done) | (simp at cB; done) | (split at cB <;> simp at cB)
theorem Na (bt : C.eO) (h : Rel w0 F0 X n ρ s a w) {o : Oper} {bz : fy} (cB : dt o.op = some bz) (ak : ll n o.dst = true) {K : ao → Prop} {next : Act → World → Prop}
  (hw : mR C s bz fun av s1 => K (fin s1 o.dst av)) (bh : ∀ aC cN aS, K aC → Rel w0 F0 X n ρ aC cN aS → next cN aS) : o.wp C.P a w next Q := by
 have oM := h
 obtain ⟨iy, ef, hb, F, S, a2⟩ := h
 have plain : ∀ av s1, bD C s bz = some (av, s1) → K (fin s1 o.dst av) → o.wp C.P a w next Q := by
  intro av s1 he aB
  obtain ⟨r, aS, v, bO, aU, ag, ah, aM, bd⟩ := EH (a := a) bt a2 (fun _ => rfl) cB he
  unfold Oper.wp
  rw [ag]
  rcases ah with rfl | ⟨rfl, rfl⟩
  ·exact bh _ _ _ aB (Rel.put iy ef hb aM bd ak)
  ·exact bh _ _ _ aB (Rel.put iy ef hb aM bd ak)
 cases bz with
 | shr bz => exact (MZ cB).elim
 | ic T bJ x y => exact (M8 cB).elim
 | call f args => exact Be bt ⟨iy, ef, hb, F, S, a2⟩ cB ak (K := fun av s1 => K (fin s1 o.dst av)) hw (fun _ _ _ aU _ _ _ s1 _ _ ah _ aM bd _ => ⟨s1, aU, ah, aM, bd⟩) bh
 | lM f args u x => exact (M0 cB).elim
 | kv f args L => exact (M1 cB).elim
 | hL T x => exact (M3 cB).elim
 | lN x => exact (M4 cB).elim
 | kO x => exact (M5 cB).elim
 | _ =>
   obtain ⟨av, s1, he, aB⟩ := hw
   exact plain av s1 he aB
theorem kq.share {F : Nat → Prop} {S : Nat → Nat → Prop} {aE : Nat → Value} {v : Value} (h : bU w0 F0 X F S s aE w) (aQ : kq w0 X F S s aE w av v) (a3 : av.tree = true) (bh : ∀ vs, av ≠ .tuple vs) :
  ∃ bO, bU w0 F0 X bO S s aE w ∧ kq w0 X bO S s aE w av.share v := by
 obtain ⟨Sn, gm, bP, fw, cZ, el, eR⟩ : ∃ Sn : Nat → Prop, dT av v ∧ ax w F av (cp v) Sn ∧ (∀ b, Sn b → b < w.heap.size) ∧ (∀ b, Sn b → ¬ F b) ∧ (∀ u b, Sn b → ¬ S u b) ∧ (∀ b, Sn b → X b ∨ w0.heap.size ≤ b) := by
  rcases aQ with ⟨ag, ah⟩ | ⟨_, ah, Sn, aM, bd, bI, cx, cy⟩
  ·rw [aL.cJ a3] at ah
   exact ⟨fun _ => False, ah.1, ah.2, fun _ h => h.elim, fun _ h => h.elim, fun _ _ h => h.elim, fun _ h => h.elim⟩
  ·exact ⟨Sn, ah, aM, bd, bI, cx, cy⟩
 refine ⟨fun b => F b ∨ Sn b, ?_, .inl ⟨A1 av, ?_⟩⟩
 ·exact {
   hp := fun b U => .inl (h.hp b U)
   hJ := fun b U => by
    rcases U with U | U
    ·exact h.hJ b U
    ·exact .inr (eR b U)
   fU := fun b U => U.elim (h.fU b) (fw b)
   eX := h.eX
   ga := fun t b U bY => bY.elim (h.ga t b U) (fun ab => el t b ab U)
   fJ := h.fJ
   dW := h.dW
   dJ := fun t => aL.frame (fun _ _ => rfl) (fun b U => .inl U) (fun _ _ _ => rfl) h.dJ _ _ _ (fun _ _ => rfl) (h.dJ t)
   old := h.old
   size := h.size
   os := h.os
   tape := h.tape
   output := h.output }
 ·have Nb : av.share.tree = true := by cases av <;> first | exact a3 | rfl
  rw [aL.cJ Nb]
  exact ⟨A3 bh gm, ax.shared (fun b U => .inl U) av _ Sn (fun b U => .inr U) bP⟩
theorem Nc {op : Op} {T : TypeId} {x : aH} (h : dt op = some (.dk T x)) : ∃ a, op = .box T a ∧ dF a = some x := by
 cases op with
 | box Bd a =>
   simp only [dt, Option.map_eq_some_iff, fy.dk.injEq] at h
   obtain ⟨y, bL, rfl, rfl⟩ := h
   exact ⟨a, rfl, bL⟩
 | _ =>
   exfalso
   unfold dt at h
   split at h <;> (try split at h) <;> (try split at h) <;> (try split at h) <;> (try simp [Option.map_eq_some_iff] at h) <;> contradiction
theorem Nd {aS : World} {F bO : Nat → Prop} {s s1 : ao} {aE : Nat → Value} (bE : ∀ b, F b → bO b ∧ aS.heap[b]? = w.heap[b]?) : ∀ (n : Nat),
  (∀ (d : j) (v : Value) (S : Nat → Prop), SizeOf.sizeOf d ≤ n → d.fh s = true → d.fh s1 = true → aL w F s aE d v S → aL aS bO s1 aE d v (fun _ => False)) ∧
  (∀ (ds : List j) (vs : List Value), SizeOf.sizeOf ds ≤ n → j.mQ s ds = true → j.mQ s1 ds = true → dM w F s aE ds vs → dM aS bO s1 aE ds vs) := by
 intro n
 induction n with
 | zero =>
   refine ⟨fun d v S b2 => ?_, fun ds vs b2 => ?_⟩
   ·cases d <;> simp at b2 <;> omega
   ·cases ds <;> simp at b2 <;> omega
 | succ n ih =>
   refine ⟨fun d v S b2 ch cu h => ?_, fun ds vs b2 ch cu h => ?_⟩
   ·cases d with
    | hole => rw [aL]; trivial
    | h x q =>
      simp only [j.fh, Bool.and_eq_true, List.isEmpty_iff] at ch cu
      obtain ⟨rfl, ch⟩ := ch
      rw [aL] at h ⊢
      obtain ⟨cU, a, e5, fT, ho⟩ := h (s x) (by simp only [j.sub]) (oL ch).1
      simp only [c8, Option.some.injEq, Prod.mk.injEq, true_and] at e5
      intro d ak _
      simp only [j.sub, Option.some.injEq] at ak
      subst ak
      exact ⟨cp (aE x), none, by simp only [c8], by rw [fT, ← e5.1], ((oL cu.2).2.2.2.2.2 _).2 (((oL ch).2.2.2.2.2 _).1 ho)⟩
    | ay x q => simp [j.fh] at ch
    | U x k =>
      simp only [j.fh, Bool.not_eq_true'] at ch
      rw [aL] at h ⊢
      obtain ⟨b, cur, e, fr, ag, ah, aM, bd⟩ := h ch
      exact fun _ => ⟨b, cur, e, fr, ag, (bE b ah).1, (bE b ah).2.trans aM, bd⟩
    | fn f cap =>
      simp only [j.fh] at ch cu
      rw [aL] at h ⊢
      obtain ⟨arr, rfl, az⟩ := h
      exact ⟨arr, rfl, ih.2 _ _ (by simp at b2; omega) ch cu az⟩
    | _ =>
      simp only [j.fh] at ch
      have bN := (aL.cJ rfl).1 h
      exact (aL.cJ rfl).2 ⟨bN.1, ax.mono (fun b U => (bE b U).1) _ _ _ _ (fun _ h => h) (ax.frame (fun b U => (bE b U).2) _ _ _ (fun _ h => h.elim) (ax.plain _ _ _ _ ch bN.2))⟩
   ·cases ds with
    | nil => rw [dM] at h ⊢; exact h
    | cons d ds =>
      simp only [j.mQ, Bool.and_eq_true] at ch cu
      rw [dM] at h ⊢
      obtain ⟨v, i9, rfl, ag, ah⟩ := h
      simp at b2
      exact ⟨v, i9, rfl, ih.1 _ _ _ (by omega) ch.1 cu.1 ag, ih.2 _ _ (by omega) ch.2 cu.2 ah⟩
theorem Nf {s : ao} {d : j} (h : d.fh s = true) : d.plain = true := by
 cases d <;> first | rfl | (simpa [j.fh] using h)
theorem bU.lQ {F : Nat → Prop} {aE : Nat → Value} : ∀ (L : List (Nat × j)) (s : ao) (S : Nat → Nat → Prop), bU w0 F0 X F S s aE w → (∀ p ∈ L, p.2.plain = true ∧ aL w F s aE p.2 (aE p.1) (fun _ => False)) →
  ∃ aU, bU w0 F0 X F aU (dp.lQ s L) aE w ∧ ∀ u b, aU u b → S u b := by
 intro L
 induction L with
 | nil => intro s S h _; exact ⟨S, h, fun _ _ h => h⟩
 | cons p L ih =>
   intro s S h qY
   obtain ⟨ag, ah⟩ := qY p (by simp)
   have ej : dq aE p.1 (aE p.1) = aE := by funext u; simp only [dq]; split <;> simp_all
   have aM := h.tM (t := p.1) ag ah
   rw [ej] at aM
   have g0 : ∀ x, x ≠ p.1 → (dq s p.1 p.2 x).tree = true → dq s p.1 p.2 x = s x ∧ aE x = aE x := fun x aw _ => ⟨jE _ _ aw, rfl⟩
   obtain ⟨aU, a8, bA⟩ := ih _ _ aM (fun q c9 => ⟨(qY q (by simp [c9])).1, (aL.void (t := p.1) g0 (by rw [mC]; exact ag) _).1 _ _ _ (Nat.le_refl _) (qY q (by simp [c9])).2⟩)
   refine ⟨aU, a8, fun u b U => ?_⟩
   have := bA u b U
   simp only [gR] at this
   split at this
   ·exact this.elim
   ·exact this
theorem Bg {s : ao} : ∀ {L : List (Nat × j)}, ky s L = true → ∀ p ∈ L, p.2.fh s = true
 | q :: L, ag, p, ay => by
   simp only [ky, Bool.and_eq_true] at ag
   rcases List.mem_cons.1 ay with rfl | ay
   ·exact ag.1
   ·exact Bg ag.2 p ay
theorem Ng {s : ao} {us : List Nat} {p : Nat × j} (h : p ∈ iO s us) : p.1 ∈ us ∧ s p.1 = p.2 := by
 obtain ⟨u, hu, rfl⟩ := List.mem_map.1 h
 exact ⟨hu, rfl⟩
theorem Nh (bt : C.eO) (h : Rel w0 F0 X n ρ s a w) {o : Oper} {bz : fy} (cB : pw o.op = bz.base) (ak : ll n o.dst = true) {K : ao → Prop} {next : Act → World → Prop}
  (hw : mR C s bz fun av s1 => K (fin s1 o.dst av)) (bh : ∀ aC cN aS, K aC → Rel w0 F0 X n ρ aC cN aS → next cN aS) : o.wp C.P a w next Q := by
 cases bz with
 | shr bz =>
   obtain ⟨av, s1, he, a3, lP, aB⟩ := hw
   rcases n9 cB with cB | cB
   ·change bz = .bad at cB
    subst cB; cases he
   obtain ⟨iy, ef, hb, F, S, a2⟩ := h
   obtain ⟨r, aS, v, bO, aU, ag, ah, aM, bd⟩ := EH (a := a) bt a2 (fun _ => rfl) cB he
   obtain ⟨uD, ct, dZ⟩ := kq.share aM bd a3 lP
   unfold Oper.wp
   rw [ag]
   rcases ah with rfl | ⟨rfl, rfl⟩
   ·exact bh _ _ _ aB (Rel.put iy ef hb ct dZ ak)
   ·exact bh _ _ _ aB (Rel.put iy ef hb ct dZ ak)
 | bad => obtain ⟨av, s1, he, _⟩ := hw; cases he
 | lM f args u x =>
   obtain ⟨a1, bg, hw⟩ := hw
   rcases n9 cB with U | U
   ·cases U
   ·refine Be bt h U ak hw ?_ bh
    rintro F S bO aU w aS av s1 v gm ⟨bP, fw, cZ⟩ el eR hc _
    have wX := gm.dJ u
    rw [a1, aL] at wX
    obtain ⟨cU, I, e5, fT, ho⟩ := wX (s x) (by simp only [j.sub]) (oL bg).1
    simp only [c8, Option.some.injEq, Prod.mk.injEq, true_and] at e5
    have Ni : ∀ y b, gR aU u (fun _ => False) y b → aU y b := by
     intro y b U
     simp only [gR] at U
     split at U
     ·exact U.elim
     ·exact U
    exact ⟨_, _, cZ, eR.alias bP fw (by rw [fT, ← e5.1]) (((oL bg).2.2.2.2.2 _).1 ho), hc.less Ni el⟩
 | kv f args L =>
   obtain ⟨bg, hw⟩ := hw
   rcases n9 cB with U | U
   ·cases U
   ·refine Be bt h U ak hw ?_ bh
    rintro F S bO aU w aS av s1 v gm ⟨bP, cZ⟩ el eR hc gS
    obtain ⟨dA, a8, bA⟩ := eR.lQ (iO s L) s1 aU (fun p ay => by
     have eE := (Ng ay).2
     have fN := Bg bg p ay
     have kL := Bg bP p ay
     refine ⟨Nf fN, (Nd gS _).1 _ _ (S p.1) (Nat.le_refl _) fN kL ?_⟩
     have := gm.dJ p.1
     rw [eE] at this
     exact this)
    exact ⟨_, dA, cZ, a8, hc.less bA el⟩
 | hL T x =>
   obtain ⟨av, s1, he, aB⟩ := hw
   rcases n9 cB with U | U
   ·cases U
   ·obtain ⟨cO, np, aw⟩ := Nc U
    obtain ⟨iy, ef, hb, F, S, a2⟩ := h
    obtain ⟨dst, op, ty, pos, after, guard⟩ := o
    simp only at np ak aB
    subst np
    obtain ⟨r, aS, v, bO, aU, ag, ah, aM, bd⟩ : Next C w0 F0 X (fun t => a.tmps.getD t undef) w (execOp a.eval ⟨dst, .box T cO, ty, pos, after, guard⟩) av s1 := (Le (T := T) a2 (fm a2 (fun _ => rfl) aw).2 he).next
    unfold Oper.wp
    rw [ag]
    rcases ah with rfl | ⟨rfl, rfl⟩
    ·exact bh _ _ _ aB (Rel.put iy ef hb aM bd ak)
    ·exact bh _ _ _ aB (Rel.put iy ef hb aM bd ak)
 | kO x =>
   obtain ⟨av, s1, he, aB⟩ := hw
   rcases n9 cB with U | U
   ·cases U
   ·obtain ⟨cO, np, aw⟩ := M6 U
    obtain ⟨iy, ef, hb, F, S, a2⟩ := h
    obtain ⟨dst, op, ty, pos, after, guard⟩ := o
    simp only at np ak aB
    subst np
    simp only [bD] at he
    obtain ⟨a8, bA⟩ := fm a2 (fun _ => rfl) aw
    obtain ⟨r, aS, v, bO, aU, ag, ah, aM, bd⟩ : Next C w0 F0 X (fun t => a.tmps.getD t undef) w (execOp a.eval ⟨dst, .move cO, ty, pos, after, guard⟩) av s1 := by
     unfold n3 at he
     split at he
     ·rename_i y q bL
      rw [bL] at a8 bA
      obtain ⟨b7, k0, ch, cu, Sn, eF, dG, ff, ez, iL, _⟩ := nS a2 a8 bA he
      exact ⟨_, w, _, F, b7, rfl, .inl rfl, k0, .inr ⟨ch, cu, Sn, eF, dG, ff, ez, iL⟩⟩
     ·simp only [Option.some.injEq, Prod.mk.injEq] at he
      obtain ⟨rfl, rfl⟩ := he
      exact ⟨_, w, _, F, S, rfl, .inl rfl, a2, .inl ⟨a8, bA⟩⟩
    unfold Oper.wp
    rw [ag]
    rcases ah with rfl | ⟨rfl, rfl⟩
    ·exact bh _ _ _ aB (Rel.put iy ef hb aM bd ak)
    ·exact bh _ _ _ aB (Rel.put iy ef hb aM bd ak)
 | lN x =>
   obtain ⟨av, s1, he, aB⟩ := hw
   rcases n9 cB with U | U
   ·cases U
   ·obtain ⟨cO, np, aw⟩ := M7 U
    obtain ⟨iy, ef, hb, F, S, a2⟩ := h
    obtain ⟨dst, op, ty, pos, after, guard⟩ := o
    simp only at np ak aB
    subst np
    simp only [bD, Option.some.injEq, Prod.mk.injEq] at he
    obtain ⟨rfl, rfl⟩ := he
    obtain ⟨a8, bA⟩ := fm a2 (fun _ => rfl) aw
    obtain ⟨r, aS, v, bO, aU, ag, ah, aM, bd⟩ : Next C w0 F0 X (fun t => a.tmps.getD t undef) w (execOp a.eval ⟨dst, .assign cO, ty, pos, after, guard⟩) (aI s x) s := ⟨_, w, _, F, S, rfl, .inl rfl, a2, .inl ⟨a8, bA⟩⟩
    unfold Oper.wp
    rw [ag]
    rcases ah with rfl | ⟨rfl, rfl⟩
    ·exact bh _ _ _ aB (Rel.put iy ef hb aM bd ak)
    ·exact bh _ _ _ aB (Rel.put iy ef hb aM bd ak)
 | ic T bJ x y =>
   obtain ⟨av, s1, he, aB⟩ := hw
   rcases n9 cB with U | U
   ·cases U
   ·obtain ⟨cO, j5, np, aw, bL⟩ := M9 U
    obtain ⟨iy, ef, hb, F, S, a2⟩ := h
    simp only [bD, Option.map_eq_some_iff, Prod.mk.injEq] at he
    obtain ⟨d, gQ, rfl, rfl⟩ := he
    obtain ⟨v, aS, bO, aU, ag, ah, aM⟩ := L1 (ty := o.type) bt a2 (fm a2 (fun _ => rfl) aw).2 (fm a2 (fun _ => rfl) bL).2 gQ
    have qZ : execOp a.eval o = (do pure (.value (← Builtin.append_ #[T, bJ] o.type #[a.eval cO, a.eval j5]))) := by
     obtain ⟨dst, op, ty, pos, after, guard⟩ := o
     simp only at np
     subst np
     simp [execOp, resolve, invoke, builtin]
    unfold Oper.wp
    rw [qZ]
    simp only [Sem.run_bind, ag, Result.andThen]
    exact bh _ _ _ aB (Rel.put iy ef hb ah aM ak)
 | _ =>
   rcases n9 cB with U | U
   ·cases U
   ·exact Na bt h U ak hw bh
end
end Go.dp
