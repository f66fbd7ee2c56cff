/- Part of a proof that a law returns true for every input. No condition. -/
import Derived.Test.YtjedocbdhlppdaaFwD
import Derived.Laws.Tables
namespace Go.b7
section
variable {C : bp} {w0 w : World} {F0 X F : Nat → Prop} {S : Nat → Nat → Prop} {s s1 : ad} {al : Nat → Value} {av : j}
theorem rT (z : List Value) : ∀ n, (List.range (n * z.length)).map (fun i => z[i % z.length]!) = (List.replicate n z).flatten
 | 0 => by simp
 | n + 1 => by
   rw [Nat.add_mul, Nat.one_mul, List.range_add, List.map_append, rT z n, List.replicate_succ', List.flatten_append]
   congr 1
   simp only [List.map_map, List.flatten_cons, List.flatten_nil, List.append_nil]
   apply List.ext_getElem
   ·simp
   ·intro i U aa
    have ax : i < z.length := aa
    simp [Nat.mod_eq_of_lt ax, ax]
theorem aH.replicate {d : j} {cs : List Value} (h : ∀ az, ai w F d cs az) : ∀ n az, aH w F (List.replicate n d) (List.replicate n cs).flatten az
 | 0, az => by simp only [List.replicate_zero, List.flatten_nil]; rw [aH]
 | n + 1, az => by
   rw [List.replicate_succ, List.replicate_succ, List.flatten_cons, aH]
   exact ⟨cs, _, fun _ => False, fun _ => False, rfl, h _, aH.replicate h n _, fun _ h => h.elim, fun _ h => h.elim, fun _ h => h.elim⟩
def e6 (C : bp) (T : TypeId) (l c : j) : Option j :=
 match (C.T T).k, l, c with
 | .slice e, .int .i64 n, .int .i64 m => if n = m ∧ 0 ≤ n ∧ (C.T e).ok = true ∧ (C.T e).zero.wd = (C.T e).sz ∧ (flat (C.T e).zero).isSome = true ∧ (C.T e).sz ≠ 0 ∧ (C.T e).bytes * n ≤ 140737488355328 ∧ n ≤ 9223372036854775807 then
   some (.aJ (C.T e).sz (List.replicate n.toNat (C.T e).zero)) else none
 | _, _, _ => none
theorem CW (aM : C.c3) (h : ba w0 F0 X F S s al w) {T : TypeId} {l c : j} {xp xq : Value} (hl : ar w F s al l xp (fun _ => False)) (ag : ar w F s al c xq (fun _ => False)) (he : e6 C T l c = some av) :
  Good C w0 F0 X al w (Instr.makeSlice T xp xq) av s := by
 unfold e6 at he
 split at he
 ·rename_i e n m ah
  have := k_ hl; subst this
  have := k_ ag; subst this
  obtain ⟨tX, d, tY, aE, aI, bg, bX, b0, bh, bc⟩ := aM.info (dG ah (by simp))
  rw [ah] at bc
  have := hi bc; subst this
  split at he
  ·rename_i m2
   obtain ⟨rfl, aO, j_, kH, lg, cV, l5, t_⟩ := m2
   simp only [Option.some.injEq] at he; subst he
   obtain ⟨i, tZ, z, f1, f2, f3, f4, f5, f6, f7⟩ := aM.info j_
   obtain ⟨c5, iI⟩ := Option.isSome_iff_exists.1 lg
   have lh := f5 c5 iI
   have eI : ∀ az, ai w F (C.T e).zero c5 az := fun az => (ai.flat _).1 _ c5 az (Nat.le_refl _) iI
   have kb : c5.length = (C.T e).sz := by rw [ai.length _ _ _ (eI (fun _ => False)), kH]
   obtain ⟨n, rfl⟩ := Int.eq_ofNat_of_zero_le aO
   simp only [Int.toNat_natCast]
   have oh : IntKind.i64.wrap (n : Int) = n := by
    rw [IntKind.wrap_i64]; omega
   have oe : ∀ k (w : World), (askRoom k).run C.P w = .ok () w := by
    intro k w
    unfold askRoom
    split <;> rfl
   have j7 : ((Array.range (n * (C.T e).sz)).map (c5.toArray[· % c5.toArray.size]!)).toList = (List.replicate n c5).flatten := by
    have := rT c5 n
    rw [kb] at this
    simpa [kb] using this
   have cK : ¬ (281474976710656 < (i.bytes : Int) * n) := by
    rw [f3]; omega
   have oi : ¬ ((n : Int) < 0) := by omega
   have run : (Instr.makeSlice T (.int .i64 n) (.int .i64 n)).run C.P w = .ok (.slice (some ⟨w.heap.size, 0, none⟩) n n)
     (w.alloc (.cells (if n * (C.T e).sz = 0 then (Array.range (n * (C.T e).sz)).map (fun _ => default) else (Array.range (n * (C.T e).sz)).map (c5.toArray[· % c5.toArray.size]!)) e)) := by
    by_cases bz : n * (C.T e).sz = 0
    ·simp [Instr.makeSlice, run_underlying bh, asInt, asIntOf, mY f1, oh, cK, oi, oe, gy f1, f2, bz, newRow]
    ·simp only [bz, if_false]
     simp [Instr.makeSlice, run_underlying bh, asInt, asIntOf, mY f1, oh, cK, oi, oe, gy f1, f2, bz, newRow, n6 f1 f4, lh]
   have hd : (if n * (C.T e).sz = 0 then (Array.range (n * (C.T e).sz)).map (fun _ => (default : Value)) else (Array.range (n * (C.T e).sz)).map (c5.toArray[· % c5.toArray.size]!)).toList = (List.replicate n c5).flatten := by
    split
    ·rename_i bz
     have : n = 0 := by
      rcases Nat.mul_eq_zero.1 bz with h | h
      ·exact h
      ·exact (cV h).elim
     subst this
     simp
    ·exact j7
   generalize nh : (if n * (C.T e).sz = 0 then (Array.range (n * (C.T e).sz)).map (fun _ => (default : Value)) else (Array.range (n * (C.T e).sz)).map (c5.toArray[· % c5.toArray.size]!)) = cur at run hd
   have fI : (List.replicate n c5).flatten.length = n * (C.T e).sz := by simp [kb]
   have fY : cur.size = n * (C.T e).sz := by
    have : cur.size = cur.toList.length := by simp
    rw [this, hd, fI]
   have gP := h.p0 (ao := w.alloc (.cells cur e)) (sz := (C.T e).sz) (cap := n) (xs := List.replicate n (C.T e).zero) (cur := cur) (e := e) (fr := (0, 0)) (Sn := fun _ => False) rfl rfl rfl rfl
    (fun o _ ⟨_, aa⟩ => absurd aa (Nat.not_lt_zero _)) (by simp) (by unfold maxLen; omega) fY (by intro d ab; rw [List.eq_of_mem_replicate ab]; exact kH)
    (by rw [hd, List.length_replicate, List.take_of_length_le (by rw [fI]; exact Nat.le_refl _)]; exact aH.replicate eI n _) (fun _ h => h.elim) (fun _ h => h.elim) (fun _ _ h => h.elim) (fun _ h => h.elim)
   rw [List.length_replicate] at gP
   exact ⟨_, _, F, S, run, gP.1, gP.2⟩
  ·cases he
 ·cases he
def jF (C : bp) (T aU : TypeId) (x y : j) : Option j :=
 match (C.T T).k, (C.T aU).k, x, y with
 | .slice e, .int _, .bu, .int .i64 n => if 0 ≤ n ∧ (C.T e).ok = true ∧ (C.T e).zero.wd = (C.T e).sz ∧ (flat (C.T e).zero).isSome = true ∧ (C.T e).sz ≠ 0 ∧ (C.T e).bytes * n ≤ 140737488355328 ∧ n ≤ 9223372036854775807 then
   some (.aJ (C.T e).sz (List.replicate n.toNat (C.T e).zero)) else none
 | _, _, _, _ => none
theorem CX {P : Program} {T aU ty e : TypeId} {k : IntKind} {i : TypeInfo} {z : Value} (aG : P.underlying T = some (.slice e)) (hu : P.underlying aU = some (.int k)) (ax : P.info? e = some i) (bd : i.zero = some z)
  (n : Nat) (bz : n ≠ 0) (R : i.size ≠ 0) (aO : n ≤ 9223372036854775807) (J : n * i.bytes ≤ 140737488355328) :
  (Builtin.append_ #[T, aU] ty #[.slice none 0 0, .int .i64 n]).run P w = .ok (.slice (some ⟨w.heap.size, 0, none⟩) n (grownCap w n 0 e))
   (w.drew.alloc (.cells (Builtin.zeroCells z.cells n ++ Builtin.zeroCells z.cells (grownCap w n 0 e - n)) e)) := by
 have oh : IntKind.i64.wrap (n : Int) = n := by rw [IntKind.wrap_i64]; omega
 have oi : ¬ ((n : Int) < 0) := by omega
 have hmul : (n : Int) * (i.bytes : Int) = ((n * i.bytes : Nat) : Int) := by simp
 have cK : ¬ (281474976710656 < (n : Int) * (i.bytes : Int)) := by rw [hmul]; omega
 have e2 : ¬ (281474976710656 < Builtin.nextslicecap n 0 * i.bytes) := by
  have : Builtin.nextslicecap n 0 = n := by unfold Builtin.nextslicecap; rw [if_pos (by omega)]
  rw [this]; omega
 have oe : ∀ k (w : World), (askRoom k).run P w = .ok () w := by
  intro k w
  unfold askRoom
  split <;> rfl
 have tU : ¬ (9223372036854775807 < (n : Int)) := by omega
 have ub : n * i.size ≠ 0 := Nat.mul_ne_zero bz R
 simp [Builtin.append_, run_underlying aG, run_underlying hu, gy ax, mY ax, asInt, asIntOf, oh, oi, cK, e2, bz, Question.forced, oe, tU, n6 ax bd, newRow, grownCap, Builtin.firstCells]
 intro hF; exact (ub hF).elim
theorem CY (aM : C.c3) (h : ba w0 F0 X F S s al w) {T aU ty : TypeId} {x y : j} {fJ fo : Value} (an : ar w F s al x fJ (fun _ => False)) (a8 : ar w F s al y fo (fun _ => False)) (he : jF C T aU x y = some av) :
  Good C w0 F0 X al w (Builtin.append_ #[T, aU] ty #[fJ, fo]) av s := by
 unfold jF at he
 split at he
 ·rename_i e Oe n ah xr
  have := la an; subst this
  have := k_ a8; subst this
  obtain ⟨tX, d, tY, aE, aI, bg, bX, b0, bh, bc⟩ := aM.info (dG ah (by simp))
  rw [ah] at bc
  have := hi bc; subst this
  obtain ⟨Of, Og, Oh, xt, xu, xv, CZ, xw, xx, oj⟩ := aM.info (dG xr (by simp))
  rw [xr] at oj
  have := pQ oj; subst this
  split at he
  ·rename_i m2
   obtain ⟨aO, j_, kH, lg, cV, l5, t_⟩ := m2
   simp only [Option.some.injEq] at he; subst he
   obtain ⟨i, tZ, z, f1, f2, f3, f4, f5, f6, f7⟩ := aM.info j_
   obtain ⟨c5, iI⟩ := Option.isSome_iff_exists.1 lg
   have lh := f5 c5 iI
   have eI : ∀ az, ai w F (C.T e).zero c5 az := fun az => (ai.flat _).1 _ c5 az (Nat.le_refl _) iI
   have kb : c5.length = (C.T e).sz := by rw [ai.length _ _ _ (eI (fun _ => False)), kH]
   obtain ⟨n, rfl⟩ := Int.eq_ofNat_of_zero_le aO
   simp only [Int.toNat_natCast]
   by_cases bz : n = 0
   ·subst bz
    have run : (Builtin.append_ #[T, aU] ty #[.slice none 0 0, .int .i64 ((0 : Nat) : Int)]).run C.P w = .ok (.slice none 0 0) w := by
     have oh : IntKind.i64.wrap 0 = 0 := by decide
     simp [Builtin.append_, run_underlying bh, run_underlying xx, gy f1, mY f1, asInt, asIntOf, oh]
    exact ⟨_, w, F, S, run, h, .inr ⟨rfl, rfl, fun _ => False, by simp only [br, fg]; rw [ai]; exact .inl ⟨rfl, _, rfl⟩, fun _ h => h.elim, fun _ h => h.elim, fun _ _ h => h.elim, fun _ h => h.elim⟩⟩
   ·have run := CX (w := w) (ty := ty) bh xx f1 f4 n bz (by rw [f2]; exact cV) (by omega) (by
     rw [f3]
     have : ((C.T e).bytes : Int) * (n : Int) = (((C.T e).bytes * n : Nat) : Int) := by simp
     rw [this] at l5
     rw [Nat.mul_comm]; omega)
    rw [lh] at run
    have p3 := grownCap_ge w n 0 e
    have ld := grownCap_le_maxLen w n 0 e (by unfold maxLen; omega)
    have xy : ∀ m, (Builtin.zeroCells c5.toArray m).toList = (List.replicate m c5).flatten := by
     intro m
     have := rT c5 m
     unfold Builtin.zeroCells
     simpa [kb] using this
    have fI : ∀ m, (List.replicate m c5).flatten.length = m * (C.T e).sz := by intro m; simp [kb]
    generalize nh : Builtin.zeroCells c5.toArray n ++ Builtin.zeroCells c5.toArray (grownCap w n 0 e - n) = cur at run
    have hd : cur.toList = (List.replicate n c5).flatten ++ (List.replicate (grownCap w n 0 e - n) c5).flatten := by rw [← nh, Array.toList_append, xy, xy]
    have fY : cur.size = grownCap w n 0 e * (C.T e).sz := by
     have : cur.size = cur.toList.length := by simp
     rw [this, hd, List.length_append, fI, fI, ← Nat.add_mul]
     congr 1; omega
    have gP := h.p0 (ao := w.drew.alloc (.cells cur e)) (sz := (C.T e).sz) (cap := grownCap w n 0 e) (xs := List.replicate n (C.T e).zero) (cur := cur) (e := e) (fr := (0, 0)) (Sn := fun _ => False) rfl rfl rfl rfl
     (fun o _ ⟨_, aa⟩ => absurd aa (Nat.not_lt_zero _)) (by simpa using p3) ld fY (by intro d ab; rw [List.eq_of_mem_replicate ab]; exact kH)
     (by rw [hd, List.length_replicate, List.take_left' (fI n)]; exact aH.replicate eI n _) (fun _ h => h.elim) (fun _ h => h.elim) (fun _ _ h => h.elim) (fun _ h => h.elim)
    rw [List.length_replicate] at gP
    exact ⟨_, _, F, S, run, gP.1, gP.2⟩
  ·cases he
 ·cases he
def gF (s : ad) (f : FuncId) (cs : List aq) : Option j := some (.fn f (cs.map (aw s)))
theorem rU {a : Act} (h : ba w0 F0 X F S s al w) (cN : ∀ t, al t = a.tmps.getD t undef) : ∀ (os : List Operand) (xs : List aq), os.map cr = xs.map some → cx w F s al (xs.map (aw s)) (os.map a.eval)
 | [], [], _ => by simp only [List.map_nil]; rw [cx]
 | [], x :: xs, h => by simp at h
 | o :: os, [], h => by simp at h
 | o :: os, x :: xs, aX => by
   simp only [List.map_cons, List.cons.injEq] at aX ⊢
   rw [cx]
   exact ⟨_, _, rfl, (dm h cN aX.1).2, rU h cN os xs aX.2⟩
theorem xz : ∀ (vs : List Value) (k off : Nat) (A : Array Value) (l m r : List Value), A.toList = l ++ (m ++ r) → l.length = off + k → m.length = vs.length →
  ((vs.zipIdx k).foldl (fun cs (x : Value × Nat) => cs.setIfInBounds (off + x.2) x.1) A).toList = l ++ (vs ++ r)
 | [], k, off, A, l, m, r, fz, hl, hm => by
   have : m = [] := by simpa using hm
   subst this
   simpa using fz
 | v :: vs, k, off, A, l, m, r, fz, hl, hm => by
   obtain ⟨x, m, rfl⟩ : ∃ x fa, m = x :: fa := by
    cases m with
    | nil => simp at hm
    | cons x m => exact ⟨x, m, rfl⟩
   rw [List.zipIdx_cons, List.foldl_cons]
   have := xz vs (k + 1) off (A.setIfInBounds (off + k) v) (l ++ [v]) m r (by
    rw [Array.toList_setIfInBounds, fz, ← hl, List.set_append_right _ _ (Nat.le_refl _)]
    simp) (by simp; omega) (by simpa using hm)
   simpa using this
def jG (os : List (Option Nat)) (a : j) : j := os.foldl (fun a o => gN o a) a
def jH (place : Nat → Option (Nat × Nat)) : ad → List j → List (Option Nat) → List (Nat × j) → Option (List j × ad)
 | s, ec, _, [] => some (ec, s)
 | s, ec, os, (k, a) :: r => match bM s (jG os a), place k, ec[k]? with
   | some (d, s1), some (off, n), some z => match d with
     | .tuple _ => none
     | d => if d.wd = n ∧ z.wd = n ∧ j.cz (ec.take k) = off then jH place s1 (ec.set k d) (os ++ [(jG os a).owner]) r else none
   | _, _, _ => none
def jI (w : World) (F : Nat → Prop) (s : ad) (al : Nat → Value) : List (Nat × j) → List (Nat × Value) → Prop
 | [], [] => True
 | (k, a) :: r, (cF, v) :: e4 => k = cF ∧ a.plain = true ∧ ar w F s al a v (fun _ => False) ∧ jI w F s al r e4
 | _, _ => False
theorem C0 (x : Nat) : ∀ d : j, d.plain = true → (bk x d).plain = true
 | .h y q, _ => by simp only [bk]; split <;> (try split) <;> rfl
 | .ak y q, _ => by simp only [bk]; split <;> rfl
 | .J y q, _ => rfl
 | .fn f c, _ => by simp only [bk]; rfl
 | .hole, h => h
 | .bool _, h => h
 | .c1, h => h
 | .int _ _, h => h
 | .str _, h => h
 | .b_, h => h
 | .bu, h => h
 | .slice _, h => h
 | .aJ _ _, h => h
 | .ref _, h => h
 | .bb _, h => h
 | .agg _, h => h
 | .tuple _, h => h
theorem C1 (o : Option Nat) (d : j) (h : d.plain = true) : (gN o d).plain = true := by
 cases o with
 | none => exact h
 | some x => exact C0 x d h
theorem jI.bk {w : World} {F : Nat → Prop} {s s1 : ad} {al : Nat → Value} {o : Option Nat} (ak : ∀ (aS : j) (cc : Value) (az : Nat → Prop), ar w F s al aS cc az → ar w F s1 al (gN o aS) cc az) :
  ∀ (r : List (Nat × j)) (e4 : List (Nat × Value)), jI w F s al r e4 → jI w F s1 al (r.map fun p => (p.1, gN o p.2)) e4
 | [], [], _ => trivial
 | (k, a) :: r, (cF, v) :: e4, h => by
   obtain ⟨U, aa, au, aK⟩ := h
   exact ⟨U, C1 _ _ aa, ak _ _ _ au, jI.bk ak r e4 aK⟩
 | [], _ :: _, h => h.elim
 | _ :: _, [], h => h.elim
theorem uc {place : Nat → Option (Nat × Nat)} : ∀ (ps : List (Nat × j)) (vs : List (Nat × Value)) (os : List (Option Nat)) (s : ad) (S : Nat → Nat → Prop) (ec : List j) (A : Array Value) (eL : Nat → Prop),
  ba w0 F0 X F S s al w → jI w F s al (ps.map fun p => (p.1, jG os p.2)) vs → aH w F ec A.toList eL → (∀ b, eL b → b < w.heap.size) → (∀ b, eL b → ¬ F b) → (∀ u b, eL b → ¬ S u b) → (∀ b, eL b → X b ∨ w0.heap.size ≤ b) →
  ∀ ds s1, jH place s ec os ps = some (ds, s1) → ∃ h_ bf dX, Instr.fill place A vs = some h_ ∧ ba w0 F0 X F bf s1 al w ∧ aH w F ds h_.toList dX ∧ (∀ b, dX b → b < w.heap.size) ∧ (∀ b, dX b → ¬ F b) ∧ (∀ u b, dX b → ¬ bf u b) ∧
    (∀ b, dX b → X b ∨ w0.heap.size ≤ b) ∧ ds.length = ec.length ∧ j.cz ds = j.cz ec ∧ (∀ n, (∀ d ∈ ec, d.wd = n) → ∀ d ∈ ds, d.wd = n)
 | [], [], os, s, S, ec, A, eL, h, _, U, aa, au, aK, a1, ds, s1, he => by
   simp only [jH, Option.some.injEq, Prod.mk.injEq] at he
   obtain ⟨rfl, rfl⟩ := he
   exact ⟨A, S, eL, rfl, h, U, aa, au, aK, a1, rfl, rfl, fun _ h => h⟩
 | (k, a) :: ps, (cF, v) :: vs, os, s, S, ec, A, eL, h, ak, U, aa, au, aK, a1, ds, s1, he => by
   obtain ⟨rfl, gQ, j3, p7⟩ := ak
   simp only [jH] at he
   split at he
   ·rename_i d p8 off n z aG eG bd
    have key : ∀ d : j, (∀ af, d ≠ .tuple af) → bM s (jG os a) = some (d, p8) → (if d.wd = n ∧ z.wd = n ∧ j.cz (ec.take k) = off then jH place p8 (ec.set k d) (os ++ [(jG os a).owner]) ps else none) = some (ds, s1) →
      ∃ h_ bf dX, Instr.fill place A ((k, v) :: vs) = some h_ ∧ ba w0 F0 X F bf s1 al w ∧ aH w F ds h_.toList dX ∧ (∀ b, dX b → b < w.heap.size) ∧ (∀ b, dX b → ¬ F b) ∧ (∀ u b, dX b → ¬ bf u b) ∧
      (∀ b, dX b → X b ∨ w0.heap.size ≤ b) ∧ ds.length = ec.length ∧ j.cz ds = j.cz ec ∧ (∀ n, (∀ d ∈ ec, d.wd = n) → ∀ d ∈ ds, d.wd = n) := by
     intro d k8 aG he
     split at he
     ·rename_i ag
      obtain ⟨rV, mZ, xA⟩ := ag
      obtain ⟨bf, g0, g1, g2, Sn, g3, g4, g5, g6, g7, g8, g9, g10⟩ := kB h gQ j3 aG
      obtain ⟨bA, dq, bG, Sx, eV, fz, eM, dF, er, e_, dy, h1⟩ := aH.pick ec _ _ k z U bd
      have j7 := pT g2 k8
      have om := ai.length _ _ _ g3
      have xB := ai.length _ _ _ dy
      have lX := h1 w d (br v) Sn (fun _ _ => rfl) (fun _ _ => rfl) g3 (fun b C2 C3 => by obtain ⟨u, hu⟩ := g9 b C2; exact aK u b (dF b C3) hu)
      have xC := xz (br v) 0 off A bA dq bG fz (by rw [eM, xA]; rfl) (by rw [xB, om, rV, mZ])
      generalize p9 : ((br v).zipIdx 0).foldl (fun cs (x : Value × Nat) => cs.setIfInBounds (off + x.2) x.1) A = rL at xC
      obtain ⟨h_, cj, dX, dY, e3, fQ, j6, kE, ek, k9, l6, ud, rW⟩ := uc (place := place) ps vs (os ++ [(jG os a).owner]) p8 bf (ec.set k d) rL (fun b => Sx b ∨ Sn b) g0 (by have := jI.bk g10 _ _ p7; simpa [jG, List.foldl_append, Function.comp_def] using this) (by rw [xC]; exact lX)
       (by rintro b (J | J); exact aa b (dF b J); exact g4 b J) (by rintro b (J | J); exact au b (dF b J); exact g5 b J)
       (by rintro u b (J | J); exact fun hu => aK u b (dF b J) (g8 u b hu); exact g6 u b J) (by rintro b (J | J); exact a1 b (dF b J); exact g7 b J) ds s1 he
      refine ⟨h_, cj, dX, ?_, e3, fQ, j6, kE, ek, k9, by rw [l6]; simp, by rw [ud]; exact tk _ _ _ _ bd (by rw [rV, mZ]), ?_⟩
      ·have ue : off + n ≤ A.size := by
        have : A.size = A.toList.length := by simp
        rw [this, fz]; simp [eM, xA, xB, mZ]
       simp only [Instr.fill, eG, j7, List.size_toArray, om, rV]
       have hG : ¬ (n ≠ n ∨ A.size < off + n) := by omega
       have C4 : (br v).toArray.zipIdx.foldl (fun cs (x : Value × Nat) => cs.setIfInBounds (off + x.2) x.1) A = rL := by
        rw [← p9, ← Array.foldl_toList]; simp
       simp only [ne_eq, not_true_eq_false, decide_false, Bool.false_or, decide_eq_true_eq, gt_iff_lt]
       rw [if_neg (by simp; omega)]
       rw [show (br v).toArray.zipIdx.foldl (fun cs x => match x with | (c, ay) => cs.setIfInBounds (off + ay) c) A = rL from C4]
       exact dY
      ·intro p_ qa
       refine rW p_ (tl qa ?_)
       rw [rV, ← mZ]; exact qa z (List.mem_of_getElem? bd)
     ·cases he
    split at he
    ·cases he
    ·rename_i k8
     exact key _ (fun af e => k8 af e) aG he
   ·cases he
 | [], _ :: _, _, _, _, _, _, _, _, ak, _, _, _, _, _, _, _, _ => ak.elim
 | _ :: _, [], _, _, _, _, _, _, _, ak, _, _, _, _, _, _, _, _ => ak.elim
def cI (C : bp) (s : ad) (T : TypeId) (ps : List (Nat × j)) : Option (j × ad) :=
 match (C.T T).k, (C.T T).zero with
 | .struct af, .agg ec => if (flat (.agg ec)).isSome = true ∧ (∀ f ∈ af, (C.T f.1).ok = true) then
   (match jH (fun k => (af[k]?).map fun f => (f.2, (C.T f.1).sz)) s ec [] ps with
   | some (ds, s1) => some (.agg ds, s1)
   | none => none) else none
 | _, _ => none
def cM (C : bp) (s : ad) (T : TypeId) (n : Nat) (ps : List (Nat × j)) : Option (j × ad) :=
 match (C.T T).k with
 | .slice e => if (C.T e).ok = true ∧ (C.T e).zero.wd = (C.T e).sz ∧ (flat (C.T e).zero).isSome = true ∧ (C.T e).sz ≠ 0 ∧ n * (C.T e).sz ≤ 16777216 then
   (match jH (fun k => some (k * (C.T e).sz, (C.T e).sz)) s (List.replicate n (C.T e).zero) [] ps with
   | some (ds, s1) => some (.aJ (C.T e).sz ds, s1)
   | none => none) else none
 | _ => none
theorem C5 (aM : C.c3) : ∀ (gs : List Field), (∀ g ∈ gs, (C.T g.type).ok = true) →
  gs.mapM (fun f => (C.P.info? f.type).map fun i => (f.offset, i.size)) = some (gs.map fun g => (g.offset, (C.T g.type).sz)) := by
 intro gs
 induction gs with
 | nil => intro _; simp
 | cons g gs ih =>
   intro aT
   obtain ⟨i, d, z, f1, f2, f3, f4, f5, f6, f7⟩ := aM.info (aT g (by simp))
   have := ih (fun g ed => aT g (by simp [ed]))
   simp [List.mapM_cons, f1, f2, this]
theorem C6 (aM : C.c3) (h : ba w0 F0 X F S s al w) {T : TypeId} {ps : List (Nat × j)} {vs : List (Nat × Value)} (ak : jI w F s al ps vs) (he : cI C s T ps = some (av, s1)) :
  Good C w0 F0 X al w (Instr.build T vs.toArray) av s1 := by
 unfold cI at he
 split at he
 ·rename_i af ec ah bd
  split at he
  ·rename_i ag
   obtain ⟨lg, C7⟩ := ag
   split at he
   ·rename_i ds s2 fI
    simp only [Option.some.injEq, Prod.mk.injEq] at he
    obtain ⟨rfl, rfl⟩ := he
    obtain ⟨i, d, z, aE, aI, bg, bX, b0, bh, bc⟩ := aM.info (dG ah (by simp))
    rw [ah] at bc
    obtain ⟨gs, rfl, xD⟩ := pP bc
    obtain ⟨c5, iI⟩ := Option.isSome_iff_exists.1 lg
    have lh := b0 c5 (by rw [bd]; exact iI)
    have eI : aH w F ec c5.toArray.toList (fun _ => False) := by
     have := (ai.flat (w := w) (F := F) _).1 (.agg ec) c5 (fun _ => False) (Nat.le_refl _) iI
     rw [ai] at this
     simpa using this
    have cQ : jI w F s al (ps.map fun p => (p.1, jG [] p.2)) vs := by simpa [jG] using ak
    obtain ⟨h_, bf, dX, dY, e3, fQ, j6, kE, ek, k9, l6, ud, rW⟩ := uc ps vs [] s S ec c5.toArray (fun _ => False) h cQ eI (fun _ h => h.elim) (fun _ h => h.elim) (fun _ _ h => h.elim) (fun _ h => h.elim) ds s2 fI
    have eG := C5 aM gs.toList (fun g aT => C7 (g.type, g.offset) (by rw [← xD]; exact List.mem_map_of_mem aT))
    have C8 : (fun (k : Nat) => (af[k]?).map fun (f : TypeId × Nat) => (f.2, (C.T f.1).sz)) = fun (k : Nat) => ((gs.toList.map fun g => (g.offset, (C.T g.type).sz)).toArray)[k]? := by
     funext k
     rw [← xD]
     simp only [List.getElem?_map, List.getElem?_toArray, Option.map_map]
     rfl
    rw [C8] at dY
    refine ⟨.agg h_, w, F, bf, run_build w T vs.toArray h_ ?_, e3, .inr ⟨rfl, ⟨_, rfl⟩, dX, by simp only [br, fg]; rw [ai]; exact fQ, j6, kE, ek, k9⟩⟩
    unfold Program.built
    simp only [aE, bh, bX, eG, lh]
    exact dY
   ·cases he
  ·cases he
 ·cases he
theorem C9 (aM : C.c3) (h : ba w0 F0 X F S s al w) {T : TypeId} {n : Nat} {ps : List (Nat × j)} {vs : List (Nat × Value)} (ak : jI w F s al ps vs) (he : cM C s T n ps = some (av, s1)) :
  Good C w0 F0 X al w (Instr.buildSlice T n vs.toArray) av s1 := by
 unfold cM at he
 split at he
 ·rename_i e ah
  split at he
  ·rename_i ag
   obtain ⟨j_, kH, lg, cV, Oi⟩ := ag
   split at he
   ·rename_i ds s2 fI
    simp only [Option.some.injEq, Prod.mk.injEq] at he
    obtain ⟨rfl, rfl⟩ := he
    obtain ⟨tX, d, tY, aE, aI, bg, bX, b0, bh, bc⟩ := aM.info (dG ah (by simp))
    rw [ah] at bc
    have := hi bc; subst this
    obtain ⟨i, tZ, z, f1, f2, f3, f4, f5, f6, f7⟩ := aM.info j_
    obtain ⟨c5, iI⟩ := Option.isSome_iff_exists.1 lg
    have lh := f5 c5 iI
    have eI : ∀ az, ai w F (C.T e).zero c5 az := fun az => (ai.flat _).1 _ c5 az (Nat.le_refl _) iI
    have kb : c5.length = (C.T e).sz := by rw [ai.length _ _ _ (eI (fun _ => False)), kH]
    generalize fz : ((Array.range (n * (C.T e).sz)).map ((if n * (C.T e).sz = 0 then #[] else c5.toArray)[· % (if n * (C.T e).sz = 0 then (#[] : Array Value) else c5.toArray).size]!)) = A
    have ue : A.toList = (List.replicate n c5).flatten := by
     rw [← fz]
     by_cases bz : n * (C.T e).sz = 0
     ·have : n = 0 := by
       rcases Nat.mul_eq_zero.1 bz with h | h
       ·exact h
       ·exact (cV h).elim
      subst this
      simp
     ·simp only [bz, if_false]
      have := rT c5 n
      rw [kb] at this
      simpa [kb] using this
    have cQ : jI w F s al (ps.map fun p => (p.1, jG [] p.2)) vs := by simpa [jG] using ak
    obtain ⟨h_, bf, dX, dY, e3, fQ, j6, kE, ek, k9, l6, ud, rW⟩ := uc ps vs [] s S (List.replicate n (C.T e).zero) A (fun _ => False) h cQ (by rw [ue]; exact aH.replicate eI n _) (fun _ h => h.elim) (fun _ h => h.elim) (fun _ _ h => h.elim) (fun _ h => h.elim) ds s2 fI
    have hlen : ds.length = n := by rw [l6]; simp
    have xE := rW (C.T e).sz (by intro d ab; rw [List.eq_of_mem_replicate ab]; exact kH)
    have C_ : h_.toList.length = n * (C.T e).sz := by rw [aH.nd fQ xE, hlen]
    have Da : h_.size = n * (C.T e).sz := by rw [← C_]; simp
    have Oj : n ≤ 16777216 := by
     have : n * 1 ≤ n * (C.T e).sz := Nat.mul_le_mul_left _ (by omega)
     omega
    have gP := e3.p0 (ao := w.alloc (.cells h_ e)) (sz := (C.T e).sz) (cap := n) (xs := ds) (cur := h_) (e := e) (fr := (0, 0)) (Sn := dX) rfl rfl rfl rfl
     (fun o _ ⟨_, aa⟩ => absurd aa (Nat.not_lt_zero _)) (by omega) (by unfold maxLen; omega) Da xE (by rw [hlen, List.take_of_length_le (by omega)]; exact fQ) j6 kE ek k9
    rw [hlen] at gP
    refine ⟨_, _, F, bf, ?_, gP.1, gP.2⟩
    by_cases bz : n * (C.T e).sz = 0
    ·simp only [bz, if_true] at fz
     have oo : (Array.map (fun _ => (default : Value)) (Array.range 0)) = A := by
      have : n = 0 := by
       rcases Nat.mul_eq_zero.1 bz with h | h
       ·exact h
       ·exact (cV h).elim
      apply Array.ext'
      rw [ue, this]
      simp
     simp [Instr.buildSlice, run_underlying bh, gy f1, f2, bz, newRow]
     rw [oo, dY]
     simp
    ·simp only [bz, if_false] at fz
     have hG : ¬ (16777216 < n * (C.T e).sz) := by omega
     simp [Instr.buildSlice, run_underlying bh, gy f1, f2, bz, hG, n6 f1 f4, lh, newRow]
     have oo : (Array.map (fun x => c5[x % c5.length]?.getD default) (Array.range (n * (C.T e).sz))) = A := by
      rw [← fz]; simp
     rw [oo, dY]
     simp
   ·cases he
  ·cases he
 ·cases he
end
inductive dH where
 | cd (x : aq)
 | ew (x : aq)
 | pick (c a b : aq)
 | eH (T : TypeId)
 | du (T : TypeId) (x : aq)
 | cI (T : TypeId) (ps : List (Nat × aq))
 | cM (T : TypeId) (n : Nat) (ps : List (Nat × aq))
 | cL (T : TypeId) (x : aq)
 | dR (T : TypeId) (x y : aq)
 | dU (x : aq)
 | bO (op : BinOp) (T : TypeId) (x y : aq)
 | un (op : UnOp) (x : aq)
 | dv (A B : TypeId) (x : aq)
 | gF (f : FuncId) (cs : List aq)
 | e6 (T : TypeId) (l c : aq)
 | cU (T : TypeId) (x : aq) (bY ax : Option aq)
 | dn (T : TypeId) (x : aq) (k : Nat)
 | dA (T : TypeId) (x i : aq)
 | idx (T : TypeId) (x i : aq)
 | ex (x : aq) (k : Nat)
 | h6 (T : TypeId) (x : aq) (k : Nat)
 | call (f : aq) (args : List aq)
 | len (T : TypeId) (x : aq)
 | app (T aU : TypeId) (x y : aq)
 | shr (aV : dH)
 | jF (T aU : TypeId) (x y : aq)
 | cap (T : TypeId) (x : aq)
 | kK (fv : Bool) (x y : aq)
 | bad
 | iJ (f : aq) (args : List aq) (u x : Nat)
 | iK (f : aq) (args : List aq) (us : List Nat)
 | hj (T : TypeId) (x : aq)
 | l7 (x : aq)
 | lj (x : aq)
def dH.base : dH → dH
 | .shr aV => aV
 | .jF T aU x y => .app T aU x y
 | .iJ f args _ _ => .call f args
 | .iK f args _ => .call f args
 | .hj T x => .du T x
 | .l7 x => .ew x
 | .lj x => .cd x
 | aV => aV
def oq : List Operand → Option (List aq)
 | [] => some []
 | o :: os => match cr o, oq os with
   | some x, some xs => some (x :: xs)
   | _, _ => none
def ot : List (Nat × Operand) → Option (List (Nat × aq))
 | [] => some []
 | (k, o) :: os => match cr o, ot os with
   | some x, some xs => some ((k, x) :: xs)
   | _, _ => none
def qb : Option Operand → Option (Option aq)
 | none => some none
 | some o => (cr o).map some
def cb : Op → Option dH
 | .move x => (cr x).map .cd
 | .assign x => (cr x).map .ew
 | .pick c a b => match cr c, cr a, cr b with
   | some c, some a, some b => some (.pick c a b)
   | _, _, _ => none
 | .alloc T => some (.eH T)
 | .box T x => (cr x).map (.du T)
 | .build T ps => (ot ps.toList).map (.cI T)
 | .buildSlice T n ps => (ot ps.toList).map (.cM T n)
 | .load T x => (cr x).map (.cL T)
 | .store T x y => match cr x, cr y with
   | some x, some y => some (.dR T x y)
   | _, _ => none
 | .nilCheck x => (cr x).map .dU
 | .binOp op T x y _ => match cr x, cr y with
   | some x, some y => some (.bO op T x y)
   | _, _ => none
 | .unOp op _ x => (cr x).map (.un op)
 | .convert A B x => (cr x).map (.dv A B)
 | .makeFunc (.func f) first cs => if first.isEmpty then (oq cs.toList).map (.gF f) else none
 | .makeSlice T l c => match cr l, cr c with
   | some l, some c => some (.e6 T l c)
   | _, _ => none
 | .slice T x bY ax none => match cr x, qb bY, qb ax with
   | some x, some bY, some ax => some (.cU T x bY ax)
   | _, _, _ => none
 | .fieldAddr T x k => (cr x).map fun x => .dn T x k
 | .indexAddr T x i => match cr x, cr i with
   | some x, some i => some (.dA T x i)
   | _, _ => none
 | .index T x i => match cr x, cr i with
   | some x, some i => some (.idx T x i)
   | _, _ => none
 | .extract x k => (cr x).map fun x => .ex x k
 | .field T x k => (cr x).map fun x => .h6 T x k
 | .call c => match c.callee with
   | .value f => match cr f, oq c.args.toList with
     | some f, some xs => some (.call f xs)
     | _, _ => none
   | .builtin .len => match c.args.toList, c.argTypes.toList with
     | [x], [T] => (cr x).map (.len T)
     | _, _ => none
   | .builtin .cap => match c.args.toList, c.argTypes.toList with
     | [x], [T] => (cr x).map (.cap T)
     | _, _ => none
   | .builtin .min => match c.args.toList with
     | [x, y] => match cr x, cr y with
       | some x, some y => some (.kK false x y)
       | _, _ => none
     | _ => none
   | .builtin .max => match c.args.toList with
     | [x, y] => match cr x, cr y with
       | some x, some y => some (.kK true x y)
       | _, _ => none
     | _ => none
   | .builtin .append => match c.args.toList, c.argTypes.toList with
     | [x, y], [T, aU] => match cr x, cr y with
       | some x, some y => some (.app T aU x y)
       | _, _ => none
     | _, _ => none
   | _ => none
 | _ => none
def kK (fv : Bool) : j → j → Option j
 | .str a, .str b => some (.str (rr fv a b))
 | _, _ => none
def kL (s : ad) : j → Option (j × ad)
 | .h y q => bM s (.h y q)
 | d => some (d, s)
def aW (C : bp) (s : ad) : dH → Option (j × ad)
 | .cd x => some (aw s x, s)
 | .ew x => match aw s x with
   | .h y q => bM s (.h y q)
   | d => some (d, s)
 | .pick c a b => match aw s c with
   | .bool dk => some (if dk then aw s a else aw s b, s)
   | _ => none
 | .eH T => (eH C T).map fun d => (d, s)
 | .du _ x => du s (aw s x)
 | .cI T ps => cI C s T (ps.map fun p => (p.1, aw s p.2))
 | .cM T n ps => cM C s T n (ps.map fun p => (p.1, aw s p.2))
 | .cL T x => (cL C s T (aw s x)).map fun d => (d, s)
 | .dR T x y => (dR C s T (aw s x) (aw s y)).map fun s1 => (.hole, s1)
 | .dU x => (dU s (aw s x)).map fun d => (d, s)
 | .bO op T x y => (bO C s op T (aw s x) (aw s y)).map fun d => (d, s)
 | .un op x => (un op (aw s x)).map fun d => (d, s)
 | .dv A B x => (dv C s A B (aw s x)).map fun d => (d, s)
 | .gF f cs => some (.fn f (cs.map (aw s)), s)
 | .e6 T l c => (e6 C T (aw s l) (aw s c)).map fun d => (d, s)
 | .cU T x bY ax => cU C s T (aw s x) (bY.map (aw s)) (ax.map (aw s))
 | .dn T x k => (dn C s T (aw s x) k).map fun d => (d, s)
 | .dA T x i => (dA C s T (aw s x) (aw s i)).map fun d => (d, s)
 | .idx T x i => (idx C T (aw s x) (aw s i)).map fun d => (d, s)
 | .ex x k => (ex s (aw s x) k).map fun d => (d, s)
 | .h6 T x k => (h6 C s T (aw s x) k).bind (kL s)
 | .call _ _ => none
 | .len T x => (h7 C s T (aw s x)).map fun d => (d, s)
 | .app T aU x y => h9 C s T aU (aw s x) (aw s y)
 | .shr _ => none
 | .iJ _ _ _ _ => none
 | .iK _ _ _ => none
 | .hj _ x => hj s (aw s x)
 | .l7 x => some (aw s x, s)
 | .lj x => kL s (aw s x)
 | .jF T aU x y => (jF C T aU (aw s x) (aw s y)).map fun d => (d, s)
 | .cap T x => match (C.T T).k, aw s x with
   | .slice _, .bu => some (.int .i64 0, s)
   | _, _ => none
 | .kK fv x y => (kK fv (aw s x) (aw s y)).map fun d => (d, s)
 | .bad => none
section
variable {C : bp} {w0 w : World} {F0 X F : Nat → Prop} {S : Nat → Nat → Prop} {s s1 : ad} {a : Act} {av : j}
theorem ni : ∀ {os : List Operand} {xs : List aq}, oq os = some xs → os.map cr = xs.map some
 | [], xs, h => by simp [oq] at h; subst h; rfl
 | o :: os, xs, h => by
   simp only [oq] at h
   split at h
   ·rename_i x Db U aa
    simp at h; subst h
    simp [U, ni aa]
   ·cases h
theorem uf {al : Nat → Value} (h : ba w0 F0 X F S s al w) (cN : ∀ t, al t = a.tmps.getD t undef) : ∀ {ps : List (Nat × Operand)} {xs : List (Nat × aq)}, ot ps = some xs →
  jI w F s al (xs.map fun p => (p.1, aw s p.2)) (ps.map fun p => (p.1, a.eval p.2))
 | [], xs, h => by simp [ot] at h; subst h; trivial
 | (k, o) :: ps, xs, aX => by
   simp only [ot] at aX
   split at aX
   ·rename_i x Db U aa
    simp at aX; subst aX
    obtain ⟨g1, g2⟩ := dm h cN U
    exact ⟨rfl, g1, g2, uf h cN aa⟩
   ·cases aX
def Next (C : bp) (w0 : World) (F0 X : Nat → Prop) (al : Nat → Value) (w : World) (m : Sem Go.Next) (av : j) (s1 : ad) : Prop :=
 ∃ r ao v aY az, m.run C.P w = .ok r ao ∧ (r = .value v ∨ r = .skip ∧ v = undef) ∧ ba w0 F0 X aY az s1 al ao ∧ hh w0 X aY az s1 al ao av v
theorem Good.next {al : Nat → Value} {m : Sem Value} (h : Good C w0 F0 X al w m av s1) : Next C w0 F0 X al w (do pure (.value (← m))) av s1 := by
 obtain ⟨v, ao, aY, az, U, aa, au⟩ := h
 exact ⟨.value v, ao, v, aY, az, by simp [U], .inl rfl, aa, au⟩
theorem xF {al : Nat → Value} (h : ba w0 F0 X F S s al w) {fv : Bool} {x y : j} {fJ fo : Value} {m : Sem Go.Next} (U : ar w F s al x fJ (fun _ => False)) (aa : ar w F s al y fo (fun _ => False))
  (he : (kK fv x y).map (fun d => (d, s)) = some (av, s1)) (hm : m = (do pure (.value (← if fv then Builtin.max2 fJ fo else Builtin.min2 fJ fo)))) : Next C w0 F0 X al w m av s1 := by
 simp only [Option.map_eq_some_iff, Prod.mk.injEq] at he
 obtain ⟨d, ab, rfl, rfl⟩ := he
 unfold kK at ab
 split at ab
 ·rename_i a b
  simp only [Option.some.injEq] at ab; subst ab
  have aE := j8 U
  have aI := j8 aa
  subst aE aI
  subst hm
  refine ⟨.value (.string ⟨⟨rr fv a b⟩⟩), w, _, F, S, ?_, .inl rfl, h, .inl ⟨rfl, jx _⟩⟩
  cases fv
  ·simp only [Builtin.min2, Op.stringOp, pV, rr, Bool.false_eq_true, if_false]
   cases J : (Op.bytesLess a b || a == b) <;> simp [asBool]
  ·simp only [Builtin.max2, Op.stringOp, pV, rr, if_true]
   cases J : Op.bytesLess a b <;> simp [asBool]
 ·cases ab
theorem xG (aM : C.c3) {al : Nat → Value} (h : ba w0 F0 X F S s al w) (cN : ∀ t, al t = a.tmps.getD t undef) {o : Oper} {aV : dH} (R : cb o.op = some aV) (he : aW C s aV = some (av, s1)) :
  Next C w0 F0 X al w (execOp a.eval o) av s1 := by
 obtain ⟨dst, op, ty, pos, after, guard⟩ := o
 simp only at R
 cases op with
 | move x =>
   simp only [cb, Option.map_eq_some_iff] at R
   obtain ⟨bW, an, rfl⟩ := R
   obtain ⟨g1, g2⟩ := dm h cN an
   simp only [aW, Option.some.injEq, Prod.mk.injEq] at he
   obtain ⟨rfl, rfl⟩ := he
   exact ⟨_, w, _, F, S, rfl, .inl rfl, h, .inl ⟨g1, g2⟩⟩
 | assign x =>
   simp only [cb, Option.map_eq_some_iff] at R
   obtain ⟨bW, an, rfl⟩ := R
   obtain ⟨g1, g2⟩ := dm h cN an
   simp only [aW] at he
   split at he
   ·rename_i y q a8
    rw [a8] at g1 g2
    obtain ⟨bf, k0, bn, bs, Sn, cT, cm, c8, c4, fq, _⟩ := kB h g1 g2 he
    exact ⟨_, w, _, F, bf, rfl, .inl rfl, k0, .inr ⟨bn, bs, Sn, cT, cm, c8, c4, fq⟩⟩
   ·simp only [Option.some.injEq, Prod.mk.injEq] at he
    obtain ⟨rfl, rfl⟩ := he
    exact ⟨_, w, _, F, S, rfl, .inl rfl, h, .inl ⟨g1, g2⟩⟩
 | pick c x y =>
   simp only [cb] at R
   split at R
   ·rename_i rX bW gM ag an a8
    simp only [Option.some.injEq] at R; subst R
    simp only [aW] at he
    split at he
    ·rename_i b J
     simp only [Option.some.injEq, Prod.mk.injEq] at he
     obtain ⟨rfl, rfl⟩ := he
     have nh := (dm h cN ag).2
     rw [J] at nh
     have nh := m5 nh
     obtain ⟨aR, aQ⟩ := dm h cN an
     obtain ⟨ug, uh⟩ := dm h cN a8
     refine ⟨.value (if b then a.eval x else a.eval y), w, _, F, S, ?_, .inl rfl, h, .inl ?_⟩
     ·simp [execOp, nh, asBool]
     ·cases b
      ·exact ⟨ug, uh⟩
      ·exact ⟨aR, aQ⟩
    ·cases he
   ·cases R
 | alloc T =>
   simp only [cb, Option.some.injEq] at R; subst R
   simp only [aW, Option.map_eq_some_iff, Prod.mk.injEq] at he
   obtain ⟨d, ab, rfl, rfl⟩ := he
   exact (B_ aM h ab).next
 | box T x =>
   simp only [cb, Option.map_eq_some_iff] at R
   obtain ⟨bW, an, rfl⟩ := R
   obtain ⟨g1, g2⟩ := dm h cN an
   exact (Cd h g1 g2 he).next
 | build T ps =>
   simp only [cb, Option.map_eq_some_iff] at R
   obtain ⟨Dc, ak, rfl⟩ := R
   obtain ⟨ps⟩ := ps
   have := (C6 aM h (uf h cN ak) he).next
   simpa [execOp] using this
 | buildSlice T n ps =>
   simp only [cb, Option.map_eq_some_iff] at R
   obtain ⟨Dc, ak, rfl⟩ := R
   obtain ⟨ps⟩ := ps
   have := (C9 aM h (uf h cN ak) he).next
   simpa [execOp] using this
 | load T x =>
   simp only [cb, Option.map_eq_some_iff] at R
   obtain ⟨bW, an, rfl⟩ := R
   obtain ⟨g1, g2⟩ := dm h cN an
   simp only [aW, Option.map_eq_some_iff, Prod.mk.injEq] at he
   obtain ⟨d, ab, rfl, rfl⟩ := he
   exact (B5 aM h g2 ab).next
 | store T x y =>
   simp only [cb] at R
   split at R
   ·rename_i bW gM an a8
    simp only [Option.some.injEq] at R; subst R
    simp only [aW, Option.map_eq_some_iff, Prod.mk.injEq] at he
    obtain ⟨s2, ab, rfl, rfl⟩ := he
    obtain ⟨ao, az, U, aa⟩ := B8 aM h (dm h cN an).2 (dm h cN a8).1 (dm h cN a8).2 ab
    exact ⟨.skip, ao, undef, F, az, by simp [execOp, U], .inr ⟨rfl, rfl⟩, aa, .inl ⟨rfl, by rw [ar]; trivial⟩⟩
   ·cases R
 | nilCheck x =>
   simp only [cb, Option.map_eq_some_iff] at R
   obtain ⟨bW, an, rfl⟩ := R
   obtain ⟨g1, g2⟩ := dm h cN an
   simp only [aW, Option.map_eq_some_iff, Prod.mk.injEq] at he
   obtain ⟨d, ab, rfl, rfl⟩ := he
   obtain ⟨rfl, ak, aC⟩ := Cs h g2 ab
   refine ⟨.value (a.eval x), w, _, F, S, ?_, .inl rfl, h, .inl ⟨ak, g2⟩⟩
   rcases aC with ⟨b, J⟩ | ⟨f, c, J⟩ <;> simp [execOp, J]
 | binOp op T x y Ok =>
   simp only [cb] at R
   split at R
   ·rename_i bW gM an a8
    simp only [Option.some.injEq] at R; subst R
    simp only [aW, Option.map_eq_some_iff, Prod.mk.injEq] at he
    obtain ⟨d, ab, rfl, rfl⟩ := he
    exact (Cp aM h x y (dm h cN an).2 (dm h cN a8).2 ab).next
   ·cases R
 | unOp op T x =>
   simp only [cb, Option.map_eq_some_iff] at R
   obtain ⟨bW, an, rfl⟩ := R
   simp only [aW, Option.map_eq_some_iff, Prod.mk.injEq] at he
   obtain ⟨d, ab, rfl, rfl⟩ := he
   exact (Cq h (dm h cN an).2 ab).next
 | convert A B x =>
   simp only [cb, Option.map_eq_some_iff] at R
   obtain ⟨bW, an, rfl⟩ := R
   simp only [aW, Option.map_eq_some_iff, Prod.mk.injEq] at he
   obtain ⟨d, ab, rfl, rfl⟩ := he
   exact (CB aM h (dm h cN an).2 ab).next
 | makeFunc fn first cs =>
   cases fn with
   | func f =>
     simp only [cb] at R
     split at R
     ·rename_i Dd
      simp only [Option.map_eq_some_iff] at R
      obtain ⟨Ol, fY, rfl⟩ := R
      simp only [aW, Option.some.injEq, Prod.mk.injEq] at he
      obtain ⟨rfl, rfl⟩ := he
      have De : first = #[] := by simpa using Dd
      subst De
      refine ⟨_, w, _, F, S, rfl, .inl rfl, h, .inl ⟨rfl, ?_⟩⟩
      rw [ar]
      refine ⟨cs.map a.eval, by simp, ?_⟩
      simpa using rU h cN _ _ (ni fY)
     ·cases R
   | _ => simp [cb] at R
 | makeSlice T l c =>
   simp only [cb] at R
   split at R
   ·rename_i bW gM an a8
    simp only [Option.some.injEq] at R; subst R
    simp only [aW, Option.map_eq_some_iff, Prod.mk.injEq] at he
    obtain ⟨d, ab, rfl, rfl⟩ := he
    exact (CW aM h (dm h cN an).2 (dm h cN a8).2 ab).next
   ·cases R
 | slice T x bY ax fv =>
   cases fv with
   | some m => simp [cb] at R
   | none =>
     simp only [cb] at R
     split at R
     ·rename_i bW Om xH an jz jA
      simp only [Option.some.injEq] at R; subst R
      obtain ⟨g1, g2⟩ := dm h cN an
      have opt : ∀ {o : Option Operand} {i9 : Option aq}, qb o = some i9 → lb w F s al (i9.map (aw s)) (o.map a.eval) := by
       intro o i9 bq
       cases o with
       | none => simp [qb] at bq; subst bq; trivial
       | some o =>
         simp only [qb, Option.map_eq_some_iff] at bq
         obtain ⟨x, an, rfl⟩ := bq
         exact (dm h cN an).2
      exact (CE aM h g1 g2 (opt jz) (opt jA) he).next
     ·cases R
 | fieldAddr T x k =>
   simp only [cb, Option.map_eq_some_iff] at R
   obtain ⟨bW, an, rfl⟩ := R
   obtain ⟨g1, g2⟩ := dm h cN an
   simp only [aW, Option.map_eq_some_iff, Prod.mk.injEq] at he
   obtain ⟨d, ab, rfl, rfl⟩ := he
   exact (BZ aM h g1 g2 ab).next
 | indexAddr T x i =>
   simp only [cb] at R
   split at R
   ·rename_i bW gM an a8
    simp only [Option.some.injEq] at R; subst R
    simp only [aW, Option.map_eq_some_iff, Prod.mk.injEq] at he
    obtain ⟨d, ab, rfl, rfl⟩ := he
    exact (B0 aM h (dm h cN an).2 (dm h cN a8).2 ab).next
   ·cases R
 | index T x i =>
   simp only [cb] at R
   split at R
   ·rename_i bW gM an a8
    simp only [Option.some.injEq] at R; subst R
    simp only [aW, Option.map_eq_some_iff, Prod.mk.injEq] at he
    obtain ⟨d, ab, rfl, rfl⟩ := he
    exact (Cy aM h (dm h cN an).2 (dm h cN a8).2 ab).next
   ·cases R
 | extract x k =>
   simp only [cb, Option.map_eq_some_iff] at R
   obtain ⟨bW, an, rfl⟩ := R
   simp only [aW, Option.map_eq_some_iff, Prod.mk.injEq] at he
   obtain ⟨d, ab, rfl, rfl⟩ := he
   exact (Cv h (dm h cN an).2 ab).next
 | field T x k =>
   simp only [cb, Option.map_eq_some_iff] at R
   obtain ⟨bW, an, rfl⟩ := R
   simp only [aW, Option.bind_eq_some_iff] at he
   obtain ⟨d, ab, he⟩ := he
   obtain ⟨v, ao, aY, az, aD, i3, j2⟩ := Cw aM h (dm h cN an).2 ab
   unfold kL at he
   split at he
   ·rename_i y q
    have Df : ar ao aY s al (.h y q) v (fun _ => False) := by
     rcases j2 with ⟨_, g2⟩ | ⟨g1, _⟩
     ·exact g2
     ·cases g1
    obtain ⟨bf, k0, bn, bs, Sn, cT, cm, c8, c4, fq, _⟩ := kB i3 rfl Df he
    exact ⟨.value v, ao, v, aY, bf, by simp [execOp, aD], .inl rfl, k0, .inr ⟨bn, bs, Sn, cT, cm, c8, c4, fq⟩⟩
   ·simp only [Option.some.injEq, Prod.mk.injEq] at he
    obtain ⟨rfl, rfl⟩ := he
    exact ⟨.value v, ao, v, aY, az, by simp [execOp, aD], .inl rfl, i3, j2⟩
 | call c =>
   obtain ⟨callee, args, argTypes⟩ := c
   simp only [cb] at R
   split at R
   ·split at R
    ·simp only [Option.some.injEq] at R; subst R
     simp [aW] at he
    ·cases R
   ·split at R
    ·rename_i x T iL nj
     simp only [Option.map_eq_some_iff] at R
     obtain ⟨bW, an, rfl⟩ := R
     simp only [aW, Option.map_eq_some_iff, Prod.mk.injEq] at he
     obtain ⟨d, ab, rfl, rfl⟩ := he
     have := (Cz (ty := ty) aM h (dm h cN an).2 ab).next
     have aE : args = #[x] := by apply Array.ext'; exact iL
     have aI : argTypes = #[T] := by apply Array.ext'; exact nj
     subst aE aI
     simpa [execOp, resolve, invoke, builtin] using this
    ·cases R
   ·split at R
    ·rename_i x T iL nj
     simp only [Option.map_eq_some_iff] at R
     obtain ⟨bW, an, rfl⟩ := R
     simp only [aW] at he
     split at he
     ·rename_i e ah Dg
      simp only [Option.some.injEq, Prod.mk.injEq] at he
      obtain ⟨rfl, rfl⟩ := he
      have aC := (dm h cN an).2
      rw [Dg] at aC
      have := la aC
      obtain ⟨i, d, z, aE, aI, bg, bX, b0, bh, bc⟩ := aM.info (dG ah (by simp))
      rw [ah] at bc
      have ab := hi bc; subst ab
      have Dh : args = #[x] := by apply Array.ext'; exact iL
      have Di : argTypes = #[T] := by apply Array.ext'; exact nj
      subst Dh Di
      have aD : (Builtin.cap_ #[T] ty #[a.eval x]).run C.P w = .ok (.int .i64 0) w := by
       rw [this]; simp [Builtin.cap_, run_underlying bh, goInt]
      have := (Good.same (av := .int .i64 0) h aD rfl (of_int _ _)).next
      simpa [execOp, resolve, invoke, builtin] using this
     ·cases he
    ·cases R
   ·split at R
    ·rename_i x y iL
     split at R
     ·rename_i bW gM an a8
      simp only [Option.some.injEq] at R; subst R
      have aE : args = #[x, y] := by apply Array.ext'; exact iL
      subst aE
      exact xF h (dm h cN an).2 (dm h cN a8).2 he (by simp [execOp, resolve, invoke, builtin, Builtin.min_])
     ·cases R
    ·cases R
   ·split at R
    ·rename_i x y iL
     split at R
     ·rename_i bW gM an a8
      simp only [Option.some.injEq] at R; subst R
      have aE : args = #[x, y] := by apply Array.ext'; exact iL
      subst aE
      exact xF h (dm h cN an).2 (dm h cN a8).2 he (by simp [execOp, resolve, invoke, builtin, Builtin.max_])
     ·cases R
    ·cases R
   ·split at R
    ·rename_i x y T aU iL nj
     split at R
     ·rename_i bW gM an a8
      simp only [Option.some.injEq] at R; subst R
      have := (CO (ty := ty) aM h (dm h cN an).2 (dm h cN a8).2 he).next
      have aE : args = #[x, y] := by apply Array.ext'; exact iL
      have aI : argTypes = #[T, aU] := by apply Array.ext'; exact nj
      subst aE aI
      simpa [execOp, resolve, invoke, builtin] using this
     ·cases R
    ·cases R
   ·cases R
 | _ => simp [cb] at R
end
mutual
def j.R : j → List Nat
 | .h x _ => [x]
 | .ak x _ => [x]
 | .J x _ => [x]
 | .fn _ cap => j.cJ cap
 | _ => []
def j.cJ : List j → List Nat
 | [] => []
 | d :: ds => d.R ++ j.cJ ds
end
inductive kM where
 | no
 | bk
 | bI
structure dZ where
 k : kM
 x : Nat
 d : j
def kM.app (k : kM) (x : Nat) (a : j) : j := match k with
 | .no => a
 | .bk => b7.bk x a
 | .bI => b7.bI x a
def dZ.at (m : dZ) (u : Nat) (a : j) : j := if u = m.x then m.d else m.k.app m.x a
def gl : List dZ → Nat → j → j
 | [], _, a => a
 | m :: ms, u, a => gl ms u (m.at u a)
def b8 (ms : List dZ) (s : ad) : ad := fun u => gl ms u (s u)
theorem xI : ∀ (ms gR : List dZ) (u : Nat) (a : j), gl (ms ++ gR) u a = gl gR u (gl ms u a)
 | [], _, _, _ => rfl
 | m :: ms, gR, u, a => by simp only [List.cons_append, gl]; exact xI ms gR u _
theorem hL (ms gR : List dZ) (s : ad) : b8 (ms ++ gR) s = b8 gR (b8 ms s) := by
 funext u; simp [b8, xI]
theorem Dj {ms : List dZ} {s aj : ad} {u : Nat} (h : aj u = s u) : b8 ms aj u = b8 ms s u := by simp [b8, h]
theorem qc (s : ad) (x : Nat) (d : j) : ca (fw x s) x d = b8 [⟨.bk, x, d⟩] s := by
 funext u; simp only [b8, gl, dZ.at, ca, fw, kM.app]
theorem xJ (s : ad) (x : Nat) (d : j) : ca (hE x s) x d = b8 [⟨.bI, x, d⟩] s := by
 funext u; simp only [b8, gl, dZ.at, ca, hE, kM.app]
theorem ui (s : ad) (x : Nat) (d : j) : ca s x d = b8 [⟨.no, x, d⟩] s := by
 funext u; simp only [b8, gl, dZ.at, ca, kM.app]
mutual
theorem qd {x : Nat} : ∀ a : j, x ∉ a.R → bk x a = a
 | .h y q, h => by
   simp only [j.R, List.mem_singleton] at h
   simp only [bk]; rw [if_neg (fun e => h e.symm)]
 | .ak y q, h => by
   simp only [j.R, List.mem_singleton] at h
   simp only [bk]; rw [if_neg (fun e => h e.symm)]
 | .J y q, h => rfl
 | .fn f cap, h => by simp only [bk]; rw [xK cap (by simpa [j.R] using h)]
 | .hole, _ => rfl
 | .bool _, _ => rfl
 | .c1, _ => rfl
 | .int _ _, _ => rfl
 | .str _, _ => rfl
 | .b_, _ => rfl
 | .bu, _ => rfl
 | .slice _, _ => rfl
 | .aJ _ _, _ => rfl
 | .ref _, _ => rfl
 | .bb _, _ => rfl
 | .agg _, _ => rfl
 | .tuple _, _ => rfl
 | .ch _, _ => rfl
theorem xK {x : Nat} : ∀ ds : List j, x ∉ j.cJ ds → fl x ds = ds
 | [], _ => rfl
 | d :: ds, h => by
   simp only [j.cJ, List.mem_append, not_or] at h
   simp only [fl]; rw [qd d h.1, xK ds h.2]
end
mutual
theorem uj {x : Nat} : ∀ a : j, x ∉ a.R → bI x a = a
 | .h y q, h => by
   simp only [j.R, List.mem_singleton] at h
   simp only [bI]; rw [if_neg (fun e => h e.symm)]
 | .ak y q, h => by
   simp only [j.R, List.mem_singleton] at h
   simp only [bI]; rw [if_neg (fun e => h e.symm)]
 | .J y q, h => by
   simp only [j.R, List.mem_singleton] at h
   simp only [bI]; rw [if_neg (fun e => h e.symm)]
 | .fn f cap, h => by simp only [bI]; rw [xL cap (by simpa [j.R] using h)]
 | .hole, _ => rfl
 | .bool _, _ => rfl
 | .c1, _ => rfl
 | .int _ _, _ => rfl
 | .str _, _ => rfl
 | .b_, _ => rfl
 | .bu, _ => rfl
 | .slice _, _ => rfl
 | .aJ _ _, _ => rfl
 | .ref _, _ => rfl
 | .bb _, _ => rfl
 | .agg _, _ => rfl
 | .tuple _, _ => rfl
 | .ch _, _ => rfl
theorem xL {x : Nat} : ∀ ds : List j, x ∉ j.cJ ds → fG x ds = ds
 | [], _ => rfl
 | d :: ds, h => by
   simp only [j.cJ, List.mem_append, not_or] at h
   simp only [fG]; rw [uj d h.1, xL ds h.2]
end
theorem qe {k : kM} {x : Nat} {a : j} (h : k = .no ∨ x ∉ a.R) : k.app x a = a := by
 cases k with
 | no => rfl
 | bk => exact qd a (by simpa using h)
 | bI => exact uj a (by simpa using h)
mutual
theorem xM (x y : Nat) : ∀ a : j, bk x (bk y a) = bk y (bk x a)
 | .h z q => by simp only [bk]; by_cases U : z = x <;> by_cases aa : z = y <;> by_cases au : q = [] <;> simp [U, aa, au, bk] <;> (subst_vars; simp_all [bk])
 | .ak z q => by simp only [bk]; by_cases U : z = x <;> by_cases aa : z = y <;> simp [U, aa, bk] <;> (subst_vars; simp_all [bk])
 | .J z q => rfl
 | .fn f cap => by simp only [bk]; rw [xN x y cap]
 | .hole => rfl
 | .bool _ => rfl
 | .c1 => rfl
 | .int _ _ => rfl
 | .str _ => rfl
 | .b_ => rfl
 | .bu => rfl
 | .slice _ => rfl
 | .aJ _ _ => rfl
 | .ref _ => rfl
 | .bb _ => rfl
 | .agg _ => rfl
 | .tuple _ => rfl
 | .ch _ => rfl
theorem xN (x y : Nat) : ∀ ds : List j, fl x (fl y ds) = fl y (fl x ds)
 | [] => rfl
 | d :: ds => by simp only [fl]; rw [xM x y d, xN x y ds]
end
mutual
theorem xO (x y : Nat) : ∀ a : j, bI x (bI y a) = bI y (bI x a)
 | .h z q => by simp only [bI]; by_cases U : z = x <;> by_cases aa : z = y <;> simp [U, aa, bI] <;> (subst_vars; simp_all [bI])
 | .ak z q => by simp only [bI]; by_cases U : z = x <;> by_cases aa : z = y <;> simp [U, aa, bI] <;> (subst_vars; simp_all [bI])
 | .J z q => by simp only [bI]; by_cases U : z = x <;> by_cases aa : z = y <;> simp [U, aa, bI] <;> (subst_vars; simp_all [bI])
 | .fn f cap => by simp only [bI]; rw [xP x y cap]
 | .hole => rfl
 | .bool _ => rfl
 | .c1 => rfl
 | .int _ _ => rfl
 | .str _ => rfl
 | .b_ => rfl
 | .bu => rfl
 | .slice _ => rfl
 | .aJ _ _ => rfl
 | .ref _ => rfl
 | .bb _ => rfl
 | .agg _ => rfl
 | .tuple _ => rfl
 | .ch _ => rfl
theorem xP (x y : Nat) : ∀ ds : List j, fG x (fG y ds) = fG y (fG x ds)
 | [] => rfl
 | d :: ds => by simp only [fG]; rw [xO x y d, xP x y ds]
end
mutual
theorem uk (x y : Nat) : ∀ a : j, bk x (bI y a) = bI y (bk x a)
 | .h z q => by simp only [bI, bk]; by_cases U : z = x <;> by_cases aa : z = y <;> by_cases au : q = [] <;> simp [U, aa, au, bI, bk] <;> (subst_vars; simp_all [bI, bk])
 | .ak z q => by simp only [bI, bk]; by_cases U : z = x <;> by_cases aa : z = y <;> simp [U, aa, bI, bk] <;> (subst_vars; simp_all [bI, bk])
 | .J z q => by simp only [bI, bk]; by_cases aa : z = y <;> simp [aa, bk]
 | .fn f cap => by simp only [bI, bk]; rw [xQ x y cap]
 | .hole => rfl
 | .bool _ => rfl
 | .c1 => rfl
 | .int _ _ => rfl
 | .str _ => rfl
 | .b_ => rfl
 | .bu => rfl
 | .slice _ => rfl
 | .aJ _ _ => rfl
 | .ref _ => rfl
 | .bb _ => rfl
 | .agg _ => rfl
 | .tuple _ => rfl
 | .ch _ => rfl
theorem xQ (x y : Nat) : ∀ ds : List j, fl x (fG y ds) = fG y (fl x ds)
 | [] => rfl
 | d :: ds => by simp only [fG, fl]; rw [uk x y d, xQ x y ds]
end
theorem Dk (k l : kM) (x y : Nat) (a : j) : k.app x (l.app y a) = l.app y (k.app x a) := by
 cases k <;> cases l <;> simp only [kM.app] <;> first | rfl | exact xM .. | exact xO .. | exact uk .. | exact (uk ..).symm
def aq.use (s : ad) : aq → List Nat
 | .t n => n :: (s n).R
 | .c av => av.R
 | .f _ => []
def aq.jJ (s : ad) : List aq → List Nat
 | [] => []
 | x :: xs => x.use s ++ aq.jJ s xs
def um (s : ad) : Option aq → List Nat
 | none => []
 | some x => x.use s
def use (s : ad) : dH → List Nat
 | .cd x => x.use s
 | .ew x => x.use s
 | .pick c a b => c.use s ++ (a.use s ++ b.use s)
 | .eH _ => []
 | .du _ x => x.use s
 | .cI _ ps => aq.jJ s (ps.map (·.2))
 | .cM _ _ ps => aq.jJ s (ps.map (·.2))
 | .cL _ x => x.use s
 | .dR _ x y => x.use s ++ y.use s
 | .dU x => x.use s
 | .bO _ _ x y => x.use s ++ y.use s
 | .un _ x => x.use s
 | .dv _ _ x => x.use s
 | .gF _ cs => aq.jJ s cs
 | .e6 _ l c => l.use s ++ c.use s
 | .cU _ x bY ax => x.use s ++ (um s bY ++ um s ax)
 | .dn _ x _ => x.use s
 | .dA _ x i => x.use s ++ i.use s
 | .idx _ x i => x.use s ++ i.use s
 | .ex x _ => x.use s
 | .h6 _ x _ => x.use s
 | .call f args => f.use s ++ aq.jJ s args
 | .len _ x => x.use s
 | .app _ _ x y => x.use s ++ y.use s
 | .shr aV => use s aV
 | .iJ f args u x => u :: x :: (f.use s ++ aq.jJ s args)
 | .iK f args us => us.flatMap (fun u => u :: (s u).R) ++ (f.use s ++ aq.jJ s args)
 | .hj _ x => x.use s
 | .l7 x => x.use s
 | .lj x => x.use s
 | .jF _ _ x y => x.use s ++ y.use s
 | .cap _ x => x.use s
 | .kK _ x y => x.use s ++ y.use s
 | .bad => []
def b4 (s : ad) : dH → List Nat
 | .ew x => (aw s x).R
 | .du _ x => (aw s x).R
 | .cI _ ps => j.cJ (ps.map fun p => aw s p.2)
 | .cM _ _ ps => j.cJ (ps.map fun p => aw s p.2)
 | .dR _ x y => (aw s x).R ++ (aw s y).R
 | .h6 _ x _ => (aw s x).R
 | .lj x => (aw s x).R
 | .cU _ x _ _ => (aw s x).R
 | .app _ _ x y => (aw s x).R ++ (aw s y).R
 | .shr aV => b4 s aV
 | _ => []
def cf (aU : List Nat) (aj s : ad) : Prop := ∀ u ∈ aU, aj u = s u
theorem cf.left {aU V : List Nat} {aj s : ad} (h : cf (aU ++ V) aj s) : cf aU aj s := fun u hu => h u (List.mem_append_left _ hu)
theorem cf.right {aU V : List Nat} {aj s : ad} (h : cf (aU ++ V) aj s) : cf V aj s := fun u hu => h u (List.mem_append_right _ hu)
theorem cf.b8 {aU : List Nat} {aj s : ad} (h : cf aU aj s) (ms : List dZ) : cf aU (b8 ms aj) (b8 ms s) := fun u hu => Dj (h u hu)
theorem cf.sub {aU V : List Nat} {aj s : ad} (h : cf aU aj s) (R : ∀ u ∈ V, u ∈ aU) : cf V aj s := fun u hu => h u (R u hu)
theorem aq.nk {s : ad} {x : aq} : ∀ u ∈ (aw s x).R, u ∈ x.use s := by
 intro u hu
 cases x with
 | t n =>
   simp only [aw, fH] at hu
   split at hu
   ·simp [aq.use, hu]
   ·simp only [j.R, List.mem_singleton] at hu; simp [aq.use, hu]
 | c av => exact hu
 | f g => simp [aw, j.R, j.cJ] at hu
theorem aq.dw {s aj : ad} {x : aq} (h : cf (x.use s) aj s) : aw aj x = aw s x := by
 cases x with
 | t n => simp only [aw]; rw [h n (by simp [aq.use])]
 | c av => rfl
 | f g => rfl
theorem cf.aw {s aj : ad} {x : aq} (h : cf (x.use s) aj s) : cf (aw s x).R aj s := h.sub aq.nk
theorem xR {s aj : ad} {x : Option aq} (h : cf (um s x) aj s) : x.map (aw aj) = x.map (aw s) := by
 cases x with
 | none => rfl
 | some x => simp only [Option.map_some]; rw [aq.dw h]
theorem aq.uo {s aj : ad} : ∀ {xs : List aq}, cf (aq.jJ s xs) aj s → xs.map (aw aj) = xs.map (aw s)
 | [], _ => rfl
 | x :: xs, h => by
   simp only [List.map_cons]
   rw [aq.dw (h.left), aq.uo (h.right)]
theorem aq.uq {s aj : ad} : ∀ {ps : List (Nat × aq)}, cf (aq.jJ s (ps.map (·.2))) aj s → (ps.map fun p => (p.1, aw aj p.2)) = ps.map fun p => (p.1, aw s p.2)
 | [], _ => rfl
 | x :: xs, h => by
   simp only [List.map_cons] at h ⊢
   rw [aq.dw (h.left), aq.uq (h.right)]
theorem aq.rY {s : ad} : ∀ {xs : List aq}, ∀ u ∈ j.cJ (xs.map (aw s)), u ∈ aq.jJ s xs
 | [], u, h => by simp [j.cJ] at h
 | x :: xs, u, h => by
   simp only [List.map_cons, j.cJ, List.mem_append] at h
   simp only [aq.jJ, List.mem_append]
   exact h.imp (aq.nk u) (aq.rY u)
section
variable {C : bp} {s aj : ad} {x y i : j} {T A B : TypeId}
theorem ur (h : cf x.R aj s) : loc aj x = loc s x := by
 cases x <;> first
  | rfl
  | (simp only [loc]; rw [h _ (by simp [j.R])])
theorem uu {z : Nat} {q : List Nat} (h : loc s x = some (z, q)) : z ∈ x.R := by
 cases x with
 | h y p =>
   simp only [loc] at h
   split at h
   ·simp only [Option.some.injEq, Prod.mk.injEq] at h; simp [j.R, h.1]
   ·cases h
 | ak y p =>
   simp only [loc] at h
   split at h
   ·simp only [Option.some.injEq, Prod.mk.injEq] at h; simp [j.R, h.1]
   ·cases h
 | _ => simp [loc] at h
theorem Dl (h : cf x.R aj s) : cL C aj T x = cL C s T x := by
 have hl := ur h
 unfold cL
 split
 ·rfl
 ·rw [h _ (by simp [j.R])]
 ·rw [hl]
  split
  ·rename_i e
   rw [h _ (uu e)]
  ·rfl
theorem Dm {k : Nat} (h : cf x.R aj s) : dn C aj T x k = dn C s T x k := by
 have hl := ur h
 unfold dn
 split
 ·split
  ·split
   ·split
    ·rfl
    ·rw [h _ (by simp [j.R])]
    ·rw [hl]
     split
     ·rename_i e
      rw [h _ (uu e)]
     ·rfl
   ·rfl
  ·rfl
 ·rfl
theorem Dn (h : cf x.R aj s) : dA C aj T x i = dA C s T x i := by
 cases x <;> first
  | rfl
  | (simp only [dA]; rw [h _ (by simp [j.R])])
theorem Dp (h : cf x.R aj s) : h7 C aj T x = h7 C s T x := by
 unfold h7
 cases (C.T T).k <;> cases x <;> first
  | rfl
  | (simp only; rw [h _ (by simp [j.R])])
theorem Dq (h : cf x.R aj s) : dv C aj A B x = dv C s A B x := by
 unfold dv
 cases (C.T B).k <;> cases x <;> first
  | rfl
  | (simp only; rw [h _ (by simp [j.R])])
theorem Dr (h : cf x.R aj s) : hk aj x = hk s x := by
 cases x <;> first
  | rfl
  | (simp only [hk]; rw [h _ (by simp [j.R])])
theorem Ds (h : cf x.R aj s) : hn aj x = hn s x := by
 cases x <;> first
  | rfl
  | (simp only [hn]; rw [h _ (by simp [j.R])])
theorem Dt {op : BinOp} (h : cf x.R aj s) : bO C aj op T x y = bO C s op T x y := by
 have U := Dr h
 have aa := Ds h
 unfold bO
 split <;> first | rfl | simp only [U, aa]
theorem Du (h : cf x.R aj s) : dU aj x = dU s x := by
 cases x <;> first
  | rfl
  | (simp only [dU]; rw [h _ (by simp [j.R])])
theorem Dv {k y : Nat} {q : List Nat} (h : h6 C s T x k = some (.h y q)) : x.R = [y] := by
 unfold h6 at h
 split at h <;> try (cases h; done)
 split at h <;> try (cases h; done)
 split at h
 ·split at h <;> try (cases h; done)
  split at h
  ·rename_i ag
   simp only [Option.some.injEq] at h
   rw [h] at ag
   exact absurd ag.2.2.2 (by simp [j.tree])
  ·cases h
 ·split at h <;> try (cases h; done)
  split at h <;> try (cases h; done)
  split at h <;> try (cases h; done)
  rename_i d ab ag
  by_cases ak : d.plain = true
  ·simp only [ak, if_true, Option.some.injEq] at h
   rw [h] at ag
   exact absurd ag.2.2.2 (by simp [j.tree])
  ·simp only [ak, Option.some.injEq] at h
   injection h with U aa
   subst U; rfl
 ·cases h
theorem xS {k : Nat} (h : cf x.R aj s) : h6 C aj T x k = h6 C s T x k := by
 unfold h6
 split <;> try rfl
 split <;> try rfl
 cases x <;> first
  | rfl
  | (simp only []; rw [h _ (by simp [j.R])])
theorem Dw {k : Nat} (h : cf x.R aj s) : ex aj x k = ex s x k := by
 cases x <;> first
  | rfl
  | (simp only [ex]; rw [h _ (by simp [j.R])])
theorem qf : ∀ (q : List Nat) (a d e : j), j.sub q a = some d → (d.plain = false ∨ q ≠ []) → (q = [] → e.R = []) → (j.put q e a).R = [] := by
 intro q a d e h ak he
 cases q with
 | nil => rw [j.put]; exact he rfl
 | cons k q =>
   cases a <;> first
    | (simp [j.sub] at h; done)
    | skip
   all_goals
    unfold j.put
    repeat' split
    all_goals first | rfl | (simp_all; done)
end
def Loc {α : Type} (aU ou : List Nat) (f : ad → Option (α × ad)) (s : ad) (av : α) (s1 : ad) : Prop :=
 ∃ ms, s1 = b8 ms s ∧ (∀ m ∈ ms, m.x ∈ ou ∧ m.d.R = []) ∧ ∀ aj, cf aU aj s → f aj = some (av, b8 ms aj)
theorem Loc.pure {α : Type} {aU ou : List Nat} {f : ad → Option (α × ad)} {s : ad} {av : α} (h : ∀ aj, cf aU aj s → f aj = some (av, aj)) : Loc aU ou f s av s :=
 ⟨[], rfl, by simp, fun aj R => h aj R⟩
theorem Loc.mono {α : Type} {aU ou rZ xT : List Nat} {f : ad → Option (α × ad)} {s s1 : ad} {av : α} (h : Loc aU ou f s av s1) (kI : ∀ u ∈ aU, u ∈ rZ) (kA : ∀ u ∈ ou, u ∈ xT) : Loc rZ xT f s av s1 := by
 obtain ⟨ms, U, aa, au⟩ := h
 exact ⟨ms, U, fun m hm => ⟨kA _ (aa m hm).1, (aa m hm).2⟩, fun aj R => au aj (R.sub kI)⟩
section
variable {C : bp} {s s1 : ad} {x y d : j} {T A B : TypeId}
theorem lk (h : bM s x = some (d, s1)) : Loc x.R x.R (fun s => bM s x) s d s1 := by
 cases x with
 | h y q =>
   simp only [bM] at h
   split at h
   ·rename_i e he
    split at h
    ·cases h
    ·rename_i ak
     simp only [Option.some.injEq, Prod.mk.injEq] at h
     obtain ⟨rfl, rfl⟩ := h
     have ak : e.plain = false := by simpa using ak
     refine ⟨[⟨.bk, y, j.put q e.bV (s y)⟩], qc _ _ _, ?_, ?_⟩
     ·intro m hm
      simp only [List.mem_singleton] at hm; subst hm
      refine ⟨by simp [j.R], qf q _ _ _ he (.inl ak) fun bR => ?_⟩
      subst bR
      cases e <;> first | (simp [j.plain] at ak; done) | rfl
     ·intro aj R
      have aE : aj y = s y := R y (by simp [j.R])
      simp only [bM, aE, he, ak]
      rw [← qc]; rfl
   ·cases h
 | ak y q => simp [bM] at h
 | J y q => simp [bM] at h
 | fn f c => simp [bM] at h
 | hole => simp [bM] at h
 | _ =>
   simp only [bM, Option.some.injEq, Prod.mk.injEq] at h
   obtain ⟨rfl, rfl⟩ := h
   exact .pure fun aj _ => rfl
mutual
theorem xU (x : Nat) : ∀ a : j, ∀ u ∈ (bk x a).R, u ∈ a.R
 | .h y q, u, h => by
   simp only [bk] at h
   split at h
   ·split at h
    ·exact h
    ·simp [j.R] at h
   ·exact h
 | .ak y q, u, h => by
   simp only [bk] at h
   split at h
   ·simp [j.R] at h
   ·exact h
 | .J y q, u, h => h
 | .fn f cap, u, h => by simp only [bk, j.R] at h ⊢; exact xV x cap u h
 | .hole, u, h => h
 | .bool _, u, h => h
 | .c1, u, h => h
 | .int _ _, u, h => h
 | .str _, u, h => h
 | .b_, u, h => h
 | .bu, u, h => h
 | .slice _, u, h => h
 | .aJ _ _, u, h => h
 | .ref _, u, h => h
 | .bb _, u, h => h
 | .agg _, u, h => h
 | .tuple _, u, h => h
theorem xV (x : Nat) : ∀ ds : List j, ∀ u ∈ j.cJ (fl x ds), u ∈ j.cJ ds
 | [], u, h => h
 | d :: ds, u, h => by
   simp only [fl, j.cJ, List.mem_append] at h ⊢
   exact h.imp (xU x d u) (xV x ds u)
end
theorem uv (o : Option Nat) (a : j) : ∀ u ∈ (gN o a).R, u ∈ a.R := by
 intro u h
 cases o with
 | none => exact h
 | some x => exact xU x a u h
theorem xW : ∀ (os : List (Option Nat)) (a : j), ∀ u ∈ (jG os a).R, u ∈ a.R := by
 intro os
 induction os with
 | nil => intro a u h; exact h
 | cons o os ih => intro a u h; exact uv o a u (ih (gN o a) u h)
theorem xX {place : Nat → Option (Nat × Nat)} : ∀ {ps : List (Nat × j)} {s s1 : ad} {ec ds : List j} {os : List (Option Nat)}, jH place s ec os ps = some (ds, s1) →
  Loc (j.cJ (ps.map (·.2))) (j.cJ (ps.map (·.2))) (fun s => jH place s ec os ps) s ds s1 := by
 intro ps
 induction ps with
 | nil =>
   intro s s1 ec ds os h
   simp only [jH, Option.some.injEq, Prod.mk.injEq] at h
   obtain ⟨rfl, rfl⟩ := h
   exact .pure fun aj _ => rfl
 | cons p ps ih =>
   intro s s1 ec ds os h
   obtain ⟨k, a⟩ := p
   simp only [jH] at h
   split at h
   ·rename_i d s2 off n z aG eG bd
    split at h
    ·cases h
    ·rename_i aS iM
     split at h
     ·rename_i ag
      obtain ⟨kc, rfl, aa, au⟩ := lk aG
      obtain ⟨nm, rfl, a1, bN⟩ := ih h
      refine ⟨kc ++ nm, (hL _ _ _).symm, ?_, ?_⟩
      ·intro m hm
       simp only [List.map_cons, j.cJ, List.mem_append] at hm ⊢
       rcases hm with hm | hm
       ·exact ⟨.inl (xW _ _ _ (aa m hm).1), (aa m hm).2⟩
       ·exact ⟨.inr (a1 m hm).1, (a1 m hm).2⟩
      ·intro aj R
       simp only [List.map_cons, j.cJ] at R
       have aE := au aj (R.left.sub (xW _ _))
       have aI := bN (b8 kc aj) (R.right.b8 kc)
       simp only at aE aI
       simp only [jH, aE, eG, bd, hL]
       rw [if_pos ag]; exact aI
     ·cases h
   ·cases h
theorem Dx {ps : List (Nat × j)} {av : j} (h : cI C s T ps = some (av, s1)) : Loc (j.cJ (ps.map (·.2))) (j.cJ (ps.map (·.2))) (fun s => cI C s T ps) s av s1 := by
 unfold cI at h
 split at h
 ·rename_i af ec ah bd
  split at h
  ·rename_i ag
   split at h
   ·rename_i ds s2 bo
    simp only [Option.some.injEq, Prod.mk.injEq] at h
    obtain ⟨rfl, rfl⟩ := h
    obtain ⟨ms, U, aa, au⟩ := xX bo
    refine ⟨ms, U, aa, fun aj R => ?_⟩
    have := au aj R
    simp only at this
    simp only [cI, ah, bd, if_pos ag, this]
   ·cases h
  ·cases h
 ·cases h
theorem Dy {n : Nat} {ps : List (Nat × j)} {av : j} (h : cM C s T n ps = some (av, s1)) : Loc (j.cJ (ps.map (·.2))) (j.cJ (ps.map (·.2))) (fun s => cM C s T n ps) s av s1 := by
 unfold cM at h
 split at h
 ·rename_i e ah
  split at h
  ·rename_i ag
   split at h
   ·rename_i ds s2 bo
    simp only [Option.some.injEq, Prod.mk.injEq] at h
    obtain ⟨rfl, rfl⟩ := h
    obtain ⟨ms, U, aa, au⟩ := xX bo
    refine ⟨ms, U, aa, fun aj R => ?_⟩
    have := au aj R
    simp only at this
    simp only [cM, ah, if_pos ag, this]
   ·cases h
  ·cases h
 ·cases h
theorem Dz {av : j} (h : du s x = some (av, s1)) : Loc x.R x.R (fun s => du s x) s av s1 := by
 unfold du at h
 split at h
 ·cases h
 ·rename_i d s2 iM aG
  simp only [Option.some.injEq, Prod.mk.injEq] at h
  obtain ⟨rfl, rfl⟩ := h
  obtain ⟨ms, U, aa, au⟩ := lk aG
  refine ⟨ms, U, aa, fun aj R => ?_⟩
  have := au aj R
  simp only at this
  simp only [du, this]
 ·cases h
theorem DA {av : j} (h : hj s x = some (av, s1)) : Loc x.R [] (fun s => hj s x) s av s1 := by
 unfold hj at h
 split at h
 ·rename_i y q
  split at h
  ·rename_i ds i5
   split at h
   ·cases h
   ·rename_i pS
    simp only [Option.some.injEq, Prod.mk.injEq] at h
    obtain ⟨rfl, rfl⟩ := h
    refine .pure fun aj R => ?_
    have e : aj y = s y := R y (by simp [j.R])
    simp only [hj, e, i5, if_neg pS]
  ·cases h
 ·split at h
  ·rename_i ag
   simp only [Option.some.injEq, Prod.mk.injEq] at h
   obtain ⟨rfl, rfl⟩ := h
   exact .pure fun aj R => by simp only [hj, ag, if_true]
  ·cases h
 ·cases h
theorem DB {s2 : ad} (h : dR C s T x y = some s2) : Loc (x.R ++ y.R) (x.R ++ y.R) (fun s => (dR C s T x y).map fun s1 => (j.hole, s1)) s .hole s2 := by
 unfold dR at h
 split at h
 ·rename_i d s1 z q aG hl
  obtain ⟨ms, U, aa, au⟩ := lk aG
  have bd := uu hl
  have bR : q ≠ [] := by
   cases x with
   | h y p =>
     simp only [loc] at hl
     split at hl
     ·simp only [Option.some.injEq, Prod.mk.injEq] at hl; simp [← hl.2]
     ·cases hl
   | ak y p =>
     simp only [loc] at hl
     split at hl
     ·rename_i j5
      simp only [Option.some.injEq, Prod.mk.injEq] at hl
      obtain ⟨rfl, rfl⟩ := hl
      intro e; subst e; simp [j.db] at j5
     ·cases hl
   | _ => simp [loc] at hl
  split at h
  ·cases h
  ·rename_i aS iM
   split at h
   ·rename_i d0 iG
    split at h
    ·rename_i ag
     simp only [Option.some.injEq] at h; subst h
     refine ⟨ms ++ [⟨.bk, z, j.put q d (s z)⟩], ?_, ?_, ?_⟩
     ·rw [hL, ← U, qc]
     ·intro m hm
      simp only [List.mem_append, List.mem_singleton] at hm ⊢
      rcases hm with hm | rfl
      ·exact ⟨.inr (aa m hm).1, (aa m hm).2⟩
      ·exact ⟨.inl bd, qf q _ _ _ iG (.inr bR) fun e => (bR e).elim⟩
     ·intro aj R
      have aE := au aj R.right
      simp only at aE
      simp only [dR, aE, ur R.left, hl, R.left z bd, iG]
      cases d <;> first | (simp only [if_pos ag, Option.map_some, hL, qc]; done) | exact (iM _ rfl).elim
    ·cases h
   ·cases h
 ·cases h
theorem DC {bY ax : Option j} {av : j} (h : cU C s T x bY ax = some (av, s1)) : Loc x.R x.R (fun s => cU C s T x bY ax) s av s1 := by
 cases x with
 | h y q =>
   unfold cU at h
   split at h <;> first | (cases h; done) | skip
   all_goals (rename_i an; try cases an)
   rename_i e ah
   split at h
   ·rename_i sz xs c7
    split at h
    ·rename_i b jz jA
     split at h
     ·rename_i ag
      split at h
      ·rename_i d s2 aG
       simp only [Option.some.injEq, Prod.mk.injEq] at h
       obtain ⟨rfl, rfl⟩ := h
       obtain ⟨ms, U, aa, au⟩ := lk aG
       refine ⟨ms, U, aa, fun aj R => ?_⟩
       have := au aj R
       simp only at this
       have aE : aj y = s y := R y (by simp [j.R])
       simp only [cU, ah, aE, c7, jz, jA, if_pos ag, this]
      ·cases h
     ·cases h
    ·cases h
   ·cases h
 | _ =>
   have l8 : s1 = s := by
    unfold cU at h
    repeat' split at h
    all_goals first | (cases h; done) | (simp only [Option.some.injEq, Prod.mk.injEq] at h; exact h.2.symm) | simp_all
   subst l8
   refine .pure fun aj _ => ?_
   unfold cU at h ⊢
   repeat' split at h
   all_goals first
    | (cases h; done)
    | (simp only [Option.some.injEq, Prod.mk.injEq] at h
       obtain ⟨rfl, _⟩ := h
       simp_all)
def kN (C : bp) (e : TypeId) (s : ad) : j → Option (j × ad)
 | .bu => some (j.aJ (C.T e).sz [], s)
 | .h a q => bM s (.h a q)
 | _ => none
def hs (s1 : ad) : j → Option (List j × ad)
 | .bu => some ([], s1)
 | .slice bT => some (bT, s1)
 | .str l => some (l.map fy, s1)
 | .h a q => match bM s1 (.h a q) with
   | some (.aJ _ bT, s2) => some (bT, s2)
   | _ => none
 | _ => none
theorem uw (C : bp) (s : ad) (T aU : TypeId) (x y : j) : h9 C s T aU x y = (match (C.T T).k with
 | .slice e => if (C.T e).ok = true ∧ (C.T e).zero.wd = (C.T e).sz ∧ (flat (C.T e).zero).isSome = true ∧ rQ C e aU = true then
   match kN C e s x with
   | some (.aJ sz xs, s1) => if sz = (C.T e).sz then
     match hs s1 (gN x.owner y) with
     | some (bT, s2) => if (∀ d ∈ bT, d.wd = (C.T e).sz) ∧ (xs.length + bT.length) * (C.T e).bytes ≤ 140737488355328 ∧ xs.length + bT.length ≤ 9223372036854775807 then some (.aJ sz (xs ++ bT), s2) else none
     | none => none
     else none
   | _ => none
   else none
 | _ => none) := by
 unfold h9
 generalize gN x.owner y = gM
 cases (C.T T).k <;> first
  | rfl
  | (cases x <;> cases gM <;> rfl)
theorem DD {e : TypeId} {d : j} (U : kN C e s x = some (d, s1)) : Loc x.R x.R (fun s => kN C e s x) s d s1 := by
 cases x with
 | bu =>
   simp only [kN, Option.some.injEq, Prod.mk.injEq] at U
   obtain ⟨U, rfl⟩ := U
   exact .pure fun aj _ => by simp only [kN, U]
 | h a q => exact lk U
 | _ => simp [kN] at U
theorem DE {bT : List j} (aa : hs s y = some (bT, s1)) : Loc y.R y.R (fun s => hs s y) s bT s1 := by
 cases y with
 | bu =>
   simp only [hs, Option.some.injEq, Prod.mk.injEq] at aa
   obtain ⟨rfl, rfl⟩ := aa
   exact .pure fun aj _ => rfl
 | slice bT =>
   simp only [hs, Option.some.injEq, Prod.mk.injEq] at aa
   obtain ⟨rfl, rfl⟩ := aa
   exact .pure fun aj _ => rfl
 | str l =>
   simp only [hs, Option.some.injEq, Prod.mk.injEq] at aa
   obtain ⟨rfl, rfl⟩ := aa
   exact .pure fun aj _ => rfl
 | h a q =>
   simp only [hs] at aa
   split at aa
   ·rename_i CQ On xY aG
    simp only [Option.some.injEq, Prod.mk.injEq] at aa
    obtain ⟨rfl, rfl⟩ := aa
    obtain ⟨ms, g1, g2, g3⟩ := lk aG
    refine ⟨ms, g1, g2, fun aj R => ?_⟩
    have := g3 aj R
    simp only at this
    simp only [hs, this]
   ·cases aa
 | _ => simp [hs] at aa
theorem DF {av : j} (h : h9 C s T A x y = some (av, s1)) : Loc (x.R ++ y.R) (x.R ++ y.R) (fun s => h9 C s T A x y) s av s1 := by
 rw [uw] at h
 split at h
 ·rename_i e ah
  split at h
  ·rename_i ag
   split at h
   ·rename_i sz xs s2 U
    split at h
    ·rename_i cV
     split at h
     ·rename_i bT ee aa
      split at h
      ·rename_i mZ
       simp only [Option.some.injEq, Prod.mk.injEq] at h
       obtain ⟨rfl, rfl⟩ := h
       obtain ⟨kc, rfl, a2, a3⟩ := DD U
       obtain ⟨nm, rfl, fK, kJ⟩ := (DE aa).mono (uv _ _) (uv _ _)
       refine ⟨kc ++ nm, (hL _ _ _).symm, ?_, ?_⟩
       ·intro m hm
        simp only [List.mem_append] at hm ⊢
        rcases hm with hm | hm
        ·exact ⟨.inl (a2 m hm).1, (a2 m hm).2⟩
        ·exact ⟨.inr (fK m hm).1, (fK m hm).2⟩
       ·intro aj R
        have aE := a3 aj R.left
        have aI := kJ (b8 kc aj) (R.right.b8 kc)
        simp only at aE aI
        simp only [uw, ah, if_pos ag, aE, if_pos cV, aI, if_pos mZ, hL]
      ·cases h
     ·cases h
    ·cases h
   ·cases h
  ·cases h
 ·cases h
theorem xZ {aV : dH} {av : j} (h : aW C s aV = some (av, s1)) : Loc (use s aV) (b4 s aV) (fun s => aW C s aV) s av s1 := by
 cases aV with
 | shr aV => simp [aW] at h
 | iJ f args u x => simp [aW] at h
 | iK f args L => simp [aW] at h
 | lj x =>
   simp only [aW] at h
   unfold kL at h
   split at h
   ·rename_i y q an
    obtain ⟨ms, U, aa, au⟩ := lk h
    refine ⟨ms, U, by simpa only [b4, an] using aa, fun aj R => ?_⟩
    have e := aq.dw (x := x) R
    have aI := au aj (by rw [← an]; exact cf.aw R)
    simp only [aW, e, an, kL]
    exact aI
   ·rename_i x0
    simp only [Option.some.injEq, Prod.mk.injEq] at h
    obtain ⟨rfl, rfl⟩ := h
    refine .pure fun aj R => ?_
    have e := aq.dw (x := x) R
    simp only [aW, e, kL]
 | l7 x =>
   simp only [aW, Option.some.injEq, Prod.mk.injEq] at h
   obtain ⟨rfl, rfl⟩ := h
   exact .pure fun aj R => by simp only [aW, aq.dw (x := x) R]
 | hj T x =>
   obtain ⟨ms, U, aa, au⟩ := DA h
   refine ⟨ms, U, aa, fun aj R => ?_⟩
   simp only [aW, aq.dw (x := x) R]
   exact au aj (cf.aw R)
 | jF T aU x y =>
   simp only [aW, Option.map_eq_some_iff, Prod.mk.injEq] at h
   obtain ⟨d, ab, rfl, rfl⟩ := h
   exact .pure fun aj R => by
    simp only [use] at R
    simp only [aW, aq.dw (x := x) R.left, aq.dw (x := y) R.right, ab, Option.map_some]
 | bad => simp [aW] at h
 | kK fv x y =>
   simp only [aW, Option.map_eq_some_iff, Prod.mk.injEq] at h
   obtain ⟨d, ab, rfl, rfl⟩ := h
   exact .pure fun aj R => by
    simp only [use] at R
    simp only [aW, aq.dw (x := x) R.left, aq.dw (x := y) R.right, ab, Option.map_some]
 | cap T x =>
   simp only [aW] at h
   split at h
   ·rename_i e ah an
    simp only [Option.some.injEq, Prod.mk.injEq] at h
    obtain ⟨rfl, rfl⟩ := h
    exact .pure fun aj R => by simp only [aW, aq.dw (x := x) R, ah, an]
   ·cases h
 | cd x =>
   simp only [aW, Option.some.injEq, Prod.mk.injEq] at h
   obtain ⟨rfl, rfl⟩ := h
   exact .pure fun aj R => by simp only [aW, aq.dw (x := x) R]
 | ew x =>
   simp only [aW] at h
   split at h
   ·rename_i y q an
    obtain ⟨ms, U, aa, au⟩ := lk h
    refine ⟨ms, U, by simpa only [b4, an] using aa, fun aj R => ?_⟩
    have e := aq.dw (x := x) R
    have aI := au aj (by rw [← an]; exact cf.aw R)
    simp only [aW, e, an]
    exact aI
   ·rename_i x0
    simp only [Option.some.injEq, Prod.mk.injEq] at h
    obtain ⟨rfl, rfl⟩ := h
    refine .pure fun aj R => ?_
    have e := aq.dw (x := x) R
    simp only [aW, e]
 | pick c a b =>
   simp only [aW] at h
   split at h
   ·rename_i dk J
    simp only [Option.some.injEq, Prod.mk.injEq] at h
    obtain ⟨rfl, rfl⟩ := h
    refine .pure fun aj R => ?_
    simp only [use] at R
    simp only [aW, aq.dw (x := c) R.left, aq.dw (x := a) R.right.left, aq.dw (x := b) R.right.right, J]
   ·cases h
 | eH T =>
   simp only [aW, Option.map_eq_some_iff, Prod.mk.injEq] at h
   obtain ⟨d, ab, rfl, rfl⟩ := h
   exact .pure fun aj R => by simp only [aW, ab, Option.map_some]
 | du T x =>
   obtain ⟨ms, U, aa, au⟩ := Dz h
   refine ⟨ms, U, aa, fun aj R => ?_⟩
   simp only [aW, aq.dw (x := x) R]
   exact au aj (cf.aw R)
 | cI T ps =>
   obtain ⟨ms, U, aa, au⟩ := Dx h
   simp only [List.map_map, Function.comp_def] at aa au
   refine ⟨ms, U, aa, fun aj R => ?_⟩
   simp only [aW, aq.uq (ps := ps) R]
   refine au aj (R.sub fun u hu => ?_)
   simp only [use]
   exact aq.rY u (by simpa [List.map_map, Function.comp_def] using hu)
 | cM T n ps =>
   obtain ⟨ms, U, aa, au⟩ := Dy h
   simp only [List.map_map, Function.comp_def] at aa au
   refine ⟨ms, U, aa, fun aj R => ?_⟩
   simp only [aW, aq.uq (ps := ps) R]
   refine au aj (R.sub fun u hu => ?_)
   simp only [use]
   exact aq.rY u (by simpa [List.map_map, Function.comp_def] using hu)
 | cL T x =>
   simp only [aW, Option.map_eq_some_iff, Prod.mk.injEq] at h
   obtain ⟨d, ab, rfl, rfl⟩ := h
   exact .pure fun aj R => by simp only [aW, aq.dw (x := x) R, Dl (cf.aw R), ab, Option.map_some]
 | dR T x y =>
   simp only [aW, Option.map_eq_some_iff, Prod.mk.injEq] at h
   obtain ⟨s2, ab, rfl, rfl⟩ := h
   obtain ⟨ms, U, aa, au⟩ := DB ab
   refine ⟨ms, U, aa, fun aj R => ?_⟩
   simp only [use] at R
   simp only [aW, aq.dw (x := x) R.left, aq.dw (x := y) R.right]
   exact au aj (R.sub fun u hu => by simp only [List.mem_append] at hu ⊢; exact hu.imp (aq.nk u) (aq.nk u))
 | dU x =>
   simp only [aW, Option.map_eq_some_iff, Prod.mk.injEq] at h
   obtain ⟨d, ab, rfl, rfl⟩ := h
   exact .pure fun aj R => by simp only [aW, aq.dw (x := x) R, Du (cf.aw R), ab, Option.map_some]
 | bO op T x y =>
   simp only [aW, Option.map_eq_some_iff, Prod.mk.injEq] at h
   obtain ⟨d, ab, rfl, rfl⟩ := h
   refine .pure fun aj R => ?_
   simp only [use] at R
   simp only [aW, aq.dw (x := x) R.left, aq.dw (x := y) R.right, Dt (cf.aw R.left), ab, Option.map_some]
 | un op x =>
   simp only [aW, Option.map_eq_some_iff, Prod.mk.injEq] at h
   obtain ⟨d, ab, rfl, rfl⟩ := h
   exact .pure fun aj R => by simp only [aW, aq.dw (x := x) R, ab, Option.map_some]
 | dv A B x =>
   simp only [aW, Option.map_eq_some_iff, Prod.mk.injEq] at h
   obtain ⟨d, ab, rfl, rfl⟩ := h
   exact .pure fun aj R => by simp only [aW, aq.dw (x := x) R, Dq (cf.aw R), ab, Option.map_some]
 | gF f cs =>
   simp only [aW, Option.some.injEq, Prod.mk.injEq] at h
   obtain ⟨rfl, rfl⟩ := h
   exact .pure fun aj R => by simp only [aW, aq.uo (xs := cs) R]
 | e6 T l c =>
   simp only [aW, Option.map_eq_some_iff, Prod.mk.injEq] at h
   obtain ⟨d, ab, rfl, rfl⟩ := h
   refine .pure fun aj R => ?_
   simp only [use] at R
   simp only [aW, aq.dw (x := l) R.left, aq.dw (x := c) R.right, ab, Option.map_some]
 | cU T x bY ax =>
   simp only [aW] at h
   obtain ⟨ms, U, aa, au⟩ := DC h
   refine ⟨ms, U, aa, fun aj R => ?_⟩
   simp only [use] at R
   simp only [aW, aq.dw (x := x) R.left, xR R.right.left, xR R.right.right]
   exact au aj (cf.aw R.left)
 | dn T x k =>
   simp only [aW, Option.map_eq_some_iff, Prod.mk.injEq] at h
   obtain ⟨d, ab, rfl, rfl⟩ := h
   exact .pure fun aj R => by simp only [aW, aq.dw (x := x) R, Dm (cf.aw R), ab, Option.map_some]
 | dA T x i =>
   simp only [aW, Option.map_eq_some_iff, Prod.mk.injEq] at h
   obtain ⟨d, ab, rfl, rfl⟩ := h
   refine .pure fun aj R => ?_
   simp only [use] at R
   simp only [aW, aq.dw (x := x) R.left, aq.dw (x := i) R.right, Dn (cf.aw R.left), ab, Option.map_some]
 | idx T x i =>
   simp only [aW, Option.map_eq_some_iff, Prod.mk.injEq] at h
   obtain ⟨d, ab, rfl, rfl⟩ := h
   refine .pure fun aj R => ?_
   simp only [use] at R
   simp only [aW, aq.dw (x := x) R.left, aq.dw (x := i) R.right, ab, Option.map_some]
 | ex x k =>
   simp only [aW, Option.map_eq_some_iff, Prod.mk.injEq] at h
   obtain ⟨d, ab, rfl, rfl⟩ := h
   exact .pure fun aj R => by simp only [aW, aq.dw (x := x) R, Dw (cf.aw R), ab, Option.map_some]
 | h6 T x k =>
   simp only [aW, Option.bind_eq_some_iff] at h
   obtain ⟨d, ab, h⟩ := h
   unfold kL at h
   split at h
   ·rename_i y q
    have an := Dv ab
    obtain ⟨ms, U, aa, au⟩ := lk h
    refine ⟨ms, U, by simpa only [b4, an, j.R] using aa, fun aj R => ?_⟩
    have aI := au aj (by rw [show (j.h y q).R = (aw s x).R from an.symm]; exact cf.aw R)
    simp only [aW, aq.dw (x := x) R, xS (cf.aw R), ab, Option.bind_some, kL]
    exact aI
   ·rename_i x0
    simp only [Option.some.injEq, Prod.mk.injEq] at h
    obtain ⟨rfl, rfl⟩ := h
    refine .pure fun aj R => ?_
    simp only [aW, aq.dw (x := x) R, xS (cf.aw R), ab, Option.bind_some, kL]
 | call f args => simp [aW] at h
 | len T x =>
   simp only [aW, Option.map_eq_some_iff, Prod.mk.injEq] at h
   obtain ⟨d, ab, rfl, rfl⟩ := h
   exact .pure fun aj R => by simp only [aW, aq.dw (x := x) R, Dp (cf.aw R), ab, Option.map_some]
 | app T aU x y =>
   obtain ⟨ms, U, aa, au⟩ := DF h
   refine ⟨ms, U, aa, fun aj R => ?_⟩
   simp only [use] at R
   simp only [aW, aq.dw (x := x) R.left, aq.dw (x := y) R.right]
   exact au aj (R.sub fun u hu => by simp only [List.mem_append] at hu ⊢; exact hu.imp (aq.nk u) (aq.nk u))
end
def j.one : j → Bool
 | .agg _ => false
 | .tuple _ => false
 | _ => true
mutual
def view (s : ad) : j → Option j
 | .h x q => match j.sub q (s x) with
   | some d => (match d with | .tuple _ => none | .ch _ => none | d => if d.plain then none else some d.share)
   | none => none
 | .ak x q => if j.db q (s x) then (match j.sub q (s x) with
   | some d => (match d with | .tuple _ => none | d => some (.ref d.share))
   | none => none) else none
 | .J _ _ => none
 | .fn f cap => (views s cap).map (.fn f)
 | .hole => none
 | d => some d
def views (s : ad) : List j → Option (List j)
 | [] => some []
 | d :: ds => match view s d, views s ds with
   | some a, some b => some (a :: b)
   | _, _ => none
end
mutual
theorem ux : ∀ d : j, d.share.plain = true
 | .hole => rfl
 | .bool _ => rfl
 | .c1 => rfl
 | .int _ _ => rfl
 | .str _ => rfl
 | .b_ => rfl
 | .bu => rfl
 | .slice _ => rfl
 | .aJ _ _ => rfl
 | .ref _ => rfl
 | .bb _ => rfl
 | .agg af => by simp only [j.share, j.plain]; exact uy af
 | .tuple af => by simp only [j.share, j.plain]; exact uy af
 | .fn _ _ => rfl
 | .h _ _ => rfl
 | .ak _ _ => rfl
 | .J _ _ => rfl
 | .ch _ => rfl
theorem uy : ∀ ds : List j, j.dr (j.shares ds) = true
 | [] => rfl
 | d :: ds => by simp only [j.shares, j.dr]; rw [ux d, uy ds]; rfl
end
theorem DG {s : ad} {a d : j} (h : a.plain = true) (he : view s a = some d) : d.plain = true := by
 cases a with
 | h x q =>
   simp only [view] at he
   split at he
   ·rename_i e c7
    cases e <;> simp only at he <;> first
     | (cases he; done)
     | (split at he
        ·cases he
        ·simp only [Option.some.injEq] at he
         subst he; exact ux _)
   ·cases he
 | ak x q =>
   simp only [view] at he
   split at he
   ·split at he
    ·rename_i e c7
     cases e <;> simp only at he <;> first
      | (cases he; done)
      | (simp only [Option.some.injEq] at he; subst he; rfl)
    ·cases he
   ·cases he
 | fn f cap =>
   simp only [view, Option.map_eq_some_iff] at he
   obtain ⟨ds, _, rfl⟩ := he
   rfl
 | hole => simp [view] at he
 | J y q => simp [view] at he
 | _ => simp only [view, Option.some.injEq] at he; subst he; exact h
theorem uz {d : j} {v : Value} (U : ∀ vs, d ≠ .tuple vs) (h : cA d v) : cA d.share v := by
 cases d <;> first | exact h | exact (U _ rfl).elim
theorem DH (w : World) : ∀ (q : List Nat) (av d aS : j) (cs bQ : List Value) (a bK : Option (Nat × Nat)), j.sub q av = some d → aS.wd = d.wd → b2 w q av cs a = some (d, bQ, bK) →
  b2 w q (j.put q aS av) cs a = some (aS, bQ, bK) := by
 intro q
 induction q with
 | nil =>
   intro av d aS cs bQ a bK ab hw h
   simp only [b2, Option.some.injEq, Prod.mk.injEq] at h
   obtain ⟨rfl, rfl, rfl⟩ := h
   simp only [j.put, b2]
 | cons k q ih =>
   intro av d aS cs bQ a bK ab hw h
   cases av with
   | agg af =>
     simp only [j.sub] at ab
     split at ab
     ·rename_i x an
      have ah : k < af.length := (List.getElem?_eq_some_iff.1 an).1
      simp only [b2, an] at h
      simp only [j.put, an, b2]
      rw [List.getElem?_set_self ah]
      simp only [List.take_set_of_le (Nat.le_refl k), j.n2 q x d aS ab hw]
      exact ih _ _ _ _ _ _ _ ab hw h
     ·cases ab
   | tuple af =>
     simp only [j.sub] at ab
     split at ab
     ·rename_i x an
      have ah : k < af.length := (List.getElem?_eq_some_iff.1 an).1
      simp only [b2, an] at h
      simp only [j.put, an, b2]
      rw [List.getElem?_set_self ah]
      simp only [List.take_set_of_le (Nat.le_refl k), j.n2 q x d aS ab hw]
      exact ih _ _ _ _ _ _ _ ab hw h
     ·cases ab
   | aJ sz af =>
     simp only [j.sub] at ab
     split at ab
     ·rename_i x an
      have ah : k < af.length := (List.getElem?_eq_some_iff.1 an).1
      have hJ : (af.set k (j.put q aS x))[k]? = some (j.put q aS x) := List.getElem?_set_self ah
      simp only [j.put, an]
      rw [b2.eq_def] at h ⊢
      simp only [an] at h
      simp only
      rw [hJ]
      split at h
      ·rename_i aE
       simp only [Option.some.injEq] at aE; subst aE
       exact ih _ _ _ _ _ _ _ ab hw h
      ·cases h
     ·cases ab
   | bb x =>
     cases k with
     | zero =>
       simp only [j.sub] at ab
       rw [b2.eq_def] at h ⊢
       simp only at h
       simp only [j.put]
       split at h
       ·rw [j.n2 q x d aS ab hw]
        exact ih _ _ _ _ _ _ _ ab hw h
       ·cases h
     | succ k => simp [j.sub] at ab
   | _ => simp [j.sub] at ab
section
variable {w0 w ao : World} {F0 X F Fc : Nat → Prop} {S : Nat → Nat → Prop} {s aj : ad} {al gx : Nat → Value}
theorem DI (h : ba w0 F0 X F S s al w) (aN : ∀ b, F b → Fc b) : ∀ n,
  (∀ (a : j) (v : Value) (d : j), SizeOf.sizeOf a ≤ n → (∀ t ∈ a.R, ∀ b, S t b → Fc b) → view s a = some d → ar w F s al a v (fun _ => False) → ar w Fc aj gx d v (fun _ => False)) ∧
  (∀ (as : List j) (vs : List Value) (ds : List j), SizeOf.sizeOf as ≤ n → (∀ t ∈ j.cJ as, ∀ b, S t b → Fc b) → views s as = some ds → cx w F s al as vs → cx w Fc aj gx ds vs) := by
 intro n
 induction n with
 | zero => exact ⟨fun a _ _ bd => by cases a <;> simp at bd <;> omega, fun as _ _ bd => by cases as <;> simp at bd <;> omega⟩
 | succ n ih =>
   refine ⟨fun a v d bd aZ he aC => ?_, fun as vs ds bd aZ he aC => ?_⟩
   ·cases a with
    | h x q =>
      simp only [view] at he
      split at he
      ·rename_i e c7
       have key : (∀ af, e ≠ .tuple af) ∧ e.plain = false ∧ d = e.share ∧ ∀ o, e ≠ .ch o := by
        cases e <;> simp only at he <;> first
         | (cases he; done)
         | (split at he
            ·cases he
            ·rename_i eG
             simp only [Option.some.injEq] at he
             exact ⟨(fun _ h => by cases h), by simpa using eG, he.symm, fun _ h => by cases h⟩)
       obtain ⟨iM, eG, rfl, hG⟩ := key
       rw [ar] at aC
       obtain ⟨bQ, bK, g1, g2, g3⟩ := aC e c7 eG
       have aG := fh c7 (.inl eG)
       have an := (ar.bE aG).1 (h.cl x)
       obtain ⟨dx, a2, cS, ei, k0, bn, bs, cT, cm, c8⟩ := ctx q (s x) (br (al x)) (S x) none e an.2 c7
       rw [g1] at k0
       simp only [Option.some.injEq, Prod.mk.injEq, true_and] at k0
       obtain ⟨rfl, rfl⟩ := k0
       have tD : e.share.tree = true := by cases e <;> first | rfl | (simp [j.plain] at eG; done) | exact (hG _ rfl).elim
       have aD := ai.shared aN e bQ ei (fun b J => aZ x (by simp [j.R]) b (bs b J)) cm
       exact (ar.bE tD).2 ⟨uz iM g3, by rw [g2]; exact aD⟩
      ·cases he
    | ak x q =>
      simp only [view] at he
      split at he
      ·rename_i j5
       split at he
       ·rename_i e c7
        have key : (∀ af, e ≠ .tuple af) ∧ d = .ref e.share := by
         cases e <;> simp only at he <;> first
          | (cases he; done)
          | (simp only [Option.some.injEq] at he; exact ⟨(fun _ h => by cases h), he.symm⟩)
        obtain ⟨iM, rfl⟩ := key
        rw [ar] at aC
        obtain ⟨bQ, b, o, g1, rfl⟩ := aC e c7 j5
        have aG := fh c7 (.inr j5)
        have an := (ar.bE aG).1 (h.cl x)
        obtain ⟨dx, a2, cS, ei, k0, bn, bs, cT, cm, c8⟩ := ctx q (s x) (br (al x)) (S x) none e an.2 c7
        rw [g1] at k0
        simp only [Option.some.injEq, Prod.mk.injEq, true_and] at k0
        obtain ⟨rfl, rfl⟩ := k0
        have aD := ai.shared aN e bQ ei (fun b J => aZ x (by simp [j.R]) b (bs b J)) cm
        rcases c8 with ⟨l, r, _, aI, _⟩ | ⟨dk, cur, ty, fr, l, r, aE, aI, bg, bX, b0, _⟩
        ·simp at aI
        ·simp only [Option.some.injEq, Prod.mk.injEq] at aE
         obtain ⟨rfl, rfl⟩ := aE
         refine (ar.bE rfl).2 ⟨rfl, ?_⟩
         rw [ai]
         refine ⟨b, l.length, bQ, rfl, aZ x (by simp [j.R]) b (bn b aI), ?_, aD⟩
         intro ay c bP
         simp only [World.cell?, bg]
         have ag : cur[l.length + ay]? = some c := by
          rw [← Array.getElem?_toList, b0, List.getElem?_append_right (by omega), List.getElem?_append_left (by
           have := (List.getElem?_eq_some_iff.1 bP).1; omega)]
          rw [← bP]; congr 1; omega
         simpa using ag
       ·cases he
      ·cases he
    | fn f cap =>
      simp only [view, Option.map_eq_some_iff] at he
      obtain ⟨ds, fR, rfl⟩ := he
      rw [ar] at aC
      obtain ⟨arr, rfl, ag⟩ := aC
      rw [ar]
      exact ⟨arr, rfl, ih.2 cap _ _ (by simp at bd; omega) (by simpa [j.R] using aZ) fR ag⟩
    | hole => simp [view] at he
    | J y q => simp [view] at he
    | _ =>
      simp only [view, Option.some.injEq] at he; subst he
      have h3 := (ar.bE rfl).1 aC
      exact (ar.bE rfl).2 ⟨h3.1, ai.mono aN _ _ _ _ (fun _ h => h) h3.2⟩
   ·cases as with
    | nil =>
      simp only [views, Option.some.injEq] at he; subst he
      rw [cx] at aC ⊢; exact aC
    | cons a as =>
      simp only [views] at he
      split at he
      ·rename_i d ds U aa
       simp only [Option.some.injEq] at he; subst he
       rw [cx] at aC ⊢
       obtain ⟨v, fW, rfl, g1, g2⟩ := aC
       simp at bd
       simp only [j.cJ, List.mem_append] at aZ
       exact ⟨v, fW, rfl, ih.1 a v d (by omega) (fun t aG => aZ t (.inl aG)) U g1, ih.2 as fW ds (by omega) (fun t aG => aZ t (.inr aG)) aa g2⟩
      ·cases he
theorem ba.fs (h : ba w0 F0 X F S s al w) {x : Nat} {q : List Nat} {d0 aS : j} {bQ : List Value} {a : Option (Nat × Nat)} {Sn : Nat → Prop}
  (ab : j.sub q (s x) = some d0) (bo : b2 w q (s x) (br (al x)) none = some (d0, bQ, a)) (aa : ∀ vs, aS ≠ .tuple vs) (aG : q = [] → aS.tree = true ∧ cA aS (al x))
  (au : ∀ k p, q = k :: p → (s x).tree = true ∧ (∀ v, fk d0 v → fk aS v)) (hw : aS.wd = d0.wd)
  (aC : ai w F aS bQ Sn) (cK : ∀ b, Sn b → b < w.heap.size) (aN : ∀ b, Sn b → ¬ F b) (aZ : ∀ u b, Sn b → ¬ S u b) (bz : ∀ b, Sn b → X b ∨ w0.heap.size ≤ b) :
  ba w0 F0 X F (eu S x (fun b => S x b ∨ Sn b)) (ca (hE x s) x (j.put q aS (s x))) al w := by
 have cN : ca al x (al x) = al := by funext u; simp only [ca]; split <;> simp_all
 have main : (j.put q aS (s x)).tree = true ∧ cA (j.put q aS (s x)) (al x) ∧ ai w F (j.put q aS (s x)) (br (al x)) (fun b => S x b ∨ Sn b) := by
  cases q with
  | nil =>
    simp only [b2, Option.some.injEq, Prod.mk.injEq] at bo
    obtain ⟨aE, aI, bg⟩ := bo
    obtain ⟨g1, g2⟩ := aG rfl
    simp only [j.put]
    refine ⟨g1, ?_, ?_⟩
    ·exact g2
    ·rw [aI]; exact ai.mono (fun _ h => h) _ _ _ _ (fun b J => .inr J) aC
  | cons k p =>
    obtain ⟨g1, g2⟩ := au k p rfl
    have an := (ar.bE g1).1 (h.cl x)
    obtain ⟨dx, a2, cS, ei, k0, bn, bs, cT, cm, c8⟩ := ctx (k :: p) (s x) (br (al x)) (S x) none d0 an.2 ab
    rw [bo] at k0
    simp only [Option.some.injEq, Prod.mk.injEq, true_and] at k0
    obtain ⟨rfl, rfl⟩ := k0
    refine ⟨?_, ?_, ?_⟩
    ·rcases mV k p aS (s x) with ⟨af, gs, aE, e⟩ | ⟨af, gs, aE, e⟩ | ⟨sz, xs, bT, aE, e⟩ | ⟨y, z, aE, e⟩ | e <;> rw [e] <;> first | rfl | exact g1
    ·refine tw an.1 ab g2 (fun _ vs e => (aa vs e).elim) hw
    ·have mono : ∀ b, (cS b ∨ Sn b) → (S x b ∨ Sn b) := fun b J => J.imp (bn b) id
     rcases c8 with ⟨l, r, aE, aI, bg⟩ | ⟨b, cur, ty, fr, l, r, aE, aI, bg, bX, b0, bh⟩
     ·rw [aE]
      exact ai.mono (fun _ h => h) _ _ _ _ mono (bg w aS bQ Sn (fun _ _ => rfl) (fun _ _ => rfl) hw aC (fun b J ag => aZ x b J (bn b ag)))
     ·refine ai.mono (fun _ h => h) _ _ _ _ mono (bh w aS bQ Sn (fun _ _ => rfl) (fun _ _ _ => rfl) ?_ hw aC (fun b J ag => aZ x b J (bn b ag)))
      rw [bg, ← b0]
 have := h.wF (t := x) main.1 main.2.1 main.2.2 (by rintro b (J | J); exact h.cZ x b J; exact cK b J) (by rintro b (J | J); exact h.dz x b J; exact aN b J)
  (by rintro u b cu (J | J); exact fun hu => h.dt u x b cu hu J; exact aZ u b J) (by rintro b (J | J); exact h.cq x b J; exact bz b J)
 rwa [cN] at this
end
mutual
def j.c6 : j → Bool
 | .slice _ => false
 | .ref _ => false
 | .fn _ _ => false
 | .h _ _ => false
 | .ak _ _ => false
 | .J _ _ => false
 | .aJ _ xs => j.l9 xs
 | .bb d => d.c6
 | .agg af => j.l9 af
 | .tuple af => j.l9 af
 | _ => true
def j.l9 : List j → Bool
 | [] => true
 | d :: ds => d.c6 && j.l9 ds
end
mutual
theorem ai.c6 {w : World} {F aY : Nat → Prop} : ∀ (d : j) (cs : List Value) (S : Nat → Prop), d.c6 = true → ai w F d cs S → ai w aY d cs S
 | .hole, _, _, _, h => h
 | .bool _, _, _, _, h => h
 | .c1, _, _, _, h => h
 | .int _ _, _, _, _, h => h
 | .str _, _, _, _, h => h
 | .b_, _, _, _, h => h
 | .bu, _, _, _, h => h
 | .slice xs, cs, S, aO, h => by simp [j.c6] at aO
 | .ref d, cs, S, aO, h => by simp [j.c6] at aO
 | .aJ sz xs, cs, S, aO, h => by
   rw [ai] at h ⊢
   rcases h with h | ⟨b, cap, cur, e, fr, az, U, aa, au, aK, a1, bN, bS, df, e1, eK, hD⟩
   ·exact .inl h
   ·exact .inr ⟨b, cap, cur, e, fr, az, U, aa, au, aK, a1, bN, bS, df, aH.c6 xs _ _ aO e1, eK, hD⟩
 | .bb d, cs, S, aO, h => by
   rw [ai] at h ⊢
   obtain ⟨b, cur, e, fr, az, U, aa, au, aK, a1, bN, bS⟩ := h
   exact ⟨b, cur, e, fr, az, U, aa, au, aK, ai.c6 d _ _ aO a1, bN, bS⟩
 | .agg af, cs, S, aO, h => by rw [ai] at h ⊢; exact aH.c6 af _ _ aO h
 | .tuple af, cs, S, aO, h => by rw [ai] at h ⊢; exact aH.c6 af _ _ aO h
 | .fn _ _, _, _, aO, h => by simp [j.c6] at aO
 | .h _ _, _, _, _, h => h
 | .ak _ _, _, _, _, h => h
 | .J _ _, _, _, _, h => h
 | .ch _, _, _, _, h => h
theorem aH.c6 {w : World} {F aY : Nat → Prop} : ∀ (ds : List j) (cs : List Value) (S : Nat → Prop), j.l9 ds = true → aH w F ds cs S → aH w aY ds cs S
 | [], _, _, _, h => h
 | d :: ds, cs, S, aO, h => by
   simp only [j.l9, Bool.and_eq_true] at aO
   rw [aH] at h ⊢
   obtain ⟨bA, bG, bf, cj, U, aa, au, aK, a1, bN⟩ := h
   exact ⟨bA, bG, bf, cj, U, ai.c6 d _ _ aO.1 aa, aH.c6 ds _ _ aO.2 au, aK, a1, bN⟩
end
theorem x1 : ∀ (q : List Nat) (av d e : j), j.sub q av = some d → j.sub q (j.put q e av) = some e := by
 intro q
 induction q with
 | nil => intro av d e _; simp [j.put, j.sub]
 | cons k q ih =>
   intro av d e h
   cases av with
   | agg af =>
     simp only [j.sub] at h
     split at h
     ·rename_i x an
      have ah : k < af.length := (List.getElem?_eq_some_iff.1 an).1
      simp only [j.put, an, j.sub, List.getElem?_set_self ah]
      exact ih _ _ _ h
     ·cases h
   | tuple af =>
     simp only [j.sub] at h
     split at h
     ·rename_i x an
      have ah : k < af.length := (List.getElem?_eq_some_iff.1 an).1
      simp only [j.put, an, j.sub, List.getElem?_set_self ah]
      exact ih _ _ _ h
     ·cases h
   | aJ sz af =>
     simp only [j.sub] at h
     split at h
     ·rename_i x an
      have ah : k < af.length := (List.getElem?_eq_some_iff.1 an).1
      simp only [j.put, an, j.sub, List.getElem?_set_self ah]
      exact ih _ _ _ h
     ·cases h
   | bb x =>
     cases k with
     | zero => simp only [j.sub] at h; simp only [j.put, j.sub]; exact ih _ _ _ h
     | succ k => simp [j.sub] at h
   | _ => simp [j.sub] at h
structure bH where
 a : j
 g : Bool
 d : j
 o : j
def j.own : j → Bool
 | .aJ _ _ => true
 | .bb _ => true
 | _ => false
def j.dK : j → Bool
 | .aJ _ _ => true
 | .bb _ => true
 | .ch _ => true
 | .agg af => !j.dr af
 | _ => false
def l_ (d o : j) : Bool := match d, o with
 | .agg a, .agg b => j.cz a == j.cz b
 | .agg _, _ => false
 | _, .agg _ => false
 | _, _ => true
theorem ma {d : j} (h : d.dK = true) : d.plain = false ∧ d.tree = true ∧ ∀ vs, d ≠ .tuple vs := by
 cases d <;> simp [j.dK] at h <;> first | exact ⟨rfl, rfl, fun vs e => by cases e⟩ | exact ⟨by simp only [j.plain]; exact h, rfl, fun vs e => by cases e⟩
theorem DJ {d o : j} (h : d.dK = true) (bq : o.dK = true) (hl : l_ d o = true) : o.wd = d.wd ∧ (∀ v, cA d v → cA o v) ∧ ∀ v, fk d.bV v → fk o v := by
 cases d <;> simp [j.dK] at h <;> cases o <;> simp [j.dK] at bq <;> simp [l_] at hl <;> first
  | exact ⟨rfl, fun _ h => h, fun _ h => h⟩
  | exact ⟨by simp only [j.wd]; exact hl.symm, fun _ h => h, fun _ h => h⟩
def bH.ok (s : ad) (p : bH) : Prop :=
 if p.g then (match p.a with | .h x q => j.sub q (s x) = some p.d ∧ p.d.dK = true ∧ (p.o = .hole ∨ (p.o.dK = true ∧ l_ p.d p.o = true)) | _ => False)
 else view s p.a = some p.d
def fA : List bH → Bool
 | [] => true
 | p :: r => (r.all fun bC => !(p.g || bC.g) || (p.a.R.all fun u => !bC.a.R.contains u)) && fA r
def bH.take (s : ad) (p : bH) : ad :=
 if p.g then (match p.a with | .h x q => ca (fw x s) x (j.put q p.d.bV (s x)) | _ => s) else s
def bH.fs (s : ad) (p : bH) : ad :=
 if p.g then (match p.a, p.o with | _, .hole => s | .h x q, o => ca (hE x s) x (j.put q o (s x)) | _, _ => s) else s
def dc (s : ad) (ps : List bH) : ad := ps.foldl bH.take s
def ft (s : ad) (ps : List bH) : ad := ps.foldl bH.fs s
section
variable {w0 w ao : World} {F0 X F Fc : Nat → Prop} {S : Nat → Nat → Prop} {s aj : ad} {al gx : Nat → Value}
def DK (w : World) (F : Nat → Prop) (s1 : ad) (al : Nat → Value) (p : bH) (v : Value) (Sn : Nat → Prop) : Prop :=
 ∃ x q a0, p.a = .h x q ∧ j.sub q (s1 x) = some p.d.bV ∧ b2 w q (s1 x) (br (al x)) none = some (p.d.bV, br v, a0) ∧ (s1 x).R = [] ∧ (q = [] → cA p.d (al x)) ∧ (q ≠ [] → (s1 x).tree = true) ∧
   cA p.d v ∧ ai w F p.d (br v) Sn
theorem DL {p : bH} {x : Nat} (h : (s x).R = []) (ak : p.g = true → x ∉ p.a.R) : bH.take s p x = s x := by
 unfold bH.take
 split
 ·rename_i aT
  cases bB : p.a with
  | h y q =>
    have : x ≠ y := by
     have := ak aT
     rw [bB] at this
     simpa [j.R] using this
    simp only
    rw [gw _ _ this]
    exact qd _ (by rw [h]; simp)
  | _ => rfl
 ·rfl
theorem uA : ∀ {ps : List bH} {s : ad} {x : Nat}, (s x).R = [] → (∀ p ∈ ps, p.g = true → x ∉ p.a.R) → dc s ps x = s x := by
 intro ps
 induction ps with
 | nil => intros; rfl
 | cons p ps ih =>
   intro s x h ak
   have e := DL (s := s) (p := p) h (ak p (by simp))
   show dc (bH.take s p) ps x = s x
   rw [ih (by rw [e]; exact h) (fun bC cQ => ak bC (by simp [cQ])), e]
theorem ll {d : j} (h : d.own = true) : d.plain = false ∧ d.tree = true ∧ d.bV = .hole ∧ d.one = true ∧ d.wd = 1 ∧ (∀ v, cA d v ↔ Value.dW v = true) := by
 cases d <;> simp [j.own] at h <;> exact ⟨rfl, rfl, rfl, rfl, rfl, fun v => Iff.rfl⟩
theorem DM : ∀ (ps : List bH) (vs : List Value) (s : ad) (S : Nat → Nat → Prop), ba w0 F0 X F S s al w → ps.length = vs.length →
  (∀ (i : Nat) (p : bH) (v : Value), ps[i]? = some p → vs[i]? = some v → p.a.plain = true ∧ ar w F s al p.a v (fun _ => False) ∧ (p.g = true → p.ok s)) → fA ps = true →
  ∃ (Sn bf : Nat → Nat → Prop), ba w0 F0 X F bf (dc s ps) al w ∧ (∀ u b, bf u b → S u b) ∧
    (∀ (i : Nat) (p : bH) (v : Value), ps[i]? = some p → vs[i]? = some v → p.g = true → DK w F (dc s ps) al p v (Sn i)) ∧
    (∀ i b, Sn i b → ∃ p, ps[i]? = some p ∧ p.g = true) ∧
    (∀ i b, Sn i b → ∃ u, S u b) ∧ (∀ i u b, Sn i b → ¬ bf u b) ∧ (∀ i ay b, i ≠ ay → Sn i b → ¬ Sn ay b) ∧
    (∀ (aS : j) (cc : Value) (az : Nat → Prop), (∀ p ∈ ps, p.g = true → ∀ u ∈ p.a.R, u ∉ aS.R) → ar w F s al aS cc az → ar w F (dc s ps) al aS cc az) := by
 intro ps
 induction ps with
 | nil =>
   intro vs s S h hl _ _
   exact ⟨fun _ _ => False, S, h, fun _ _ h => h, fun i p v ak => by simp at ak, fun _ _ h => h.elim, fun _ _ h => h.elim, fun _ _ _ h => h.elim, fun _ _ _ _ h => h.elim, fun _ _ _ _ h => h⟩
 | cons p ps ih =>
   intro vs s S h hl p7 gQ
   cases vs with
   | nil => simp at hl
   | cons v vs =>
     simp only [List.length_cons, Nat.add_right_cancel_iff] at hl
     simp only [fA, Bool.and_eq_true, List.all_eq_true, Bool.or_eq_true, Bool.not_eq_true'] at gQ
     obtain ⟨kd, jK⟩ := gQ
     have ov : ∀ bC ∈ ps, (p.g = true ∨ bC.g = true) → ∀ u ∈ p.a.R, u ∉ bC.a.R := by
      intro bC cQ aT u hu
      rcases kd bC cQ with e | e
      ·rcases aT with aT | aT <;> simp [aT] at e
      ·simpa using e u hu
     obtain ⟨f1, f2, f3⟩ := p7 0 p v rfl rfl
     cases aT : p.g with
     | false =>
       have eO : bH.take s p = s := by simp [bH.take, aT]
       obtain ⟨Sn, bf, g1, g2, g3, g4, g5, g6, g7, g8⟩ := ih vs s S h hl (fun i bC cc ak aC => p7 (i + 1) bC cc (by simpa using ak) (by simpa using aC)) jK
       have aE : dc s (p :: ps) = dc s ps := by show dc (bH.take s p) ps = _; rw [eO]
       rw [aE]
       refine ⟨fun i => match i with | 0 => fun _ => False | i + 1 => Sn i, bf, g1, g2, ?_, ?_, ?_, ?_, ?_, fun aS cc az ab => g8 aS cc az fun bC cQ => ab bC (by simp [cQ])⟩
       ·intro i bC cc ak aC ed
        cases i with
        | zero => simp at ak; subst ak; rw [aT] at ed; cases ed
        | succ i => exact g3 i bC cc (by simpa using ak) (by simpa using aC) ed
       ·intro i b J
        cases i with
        | zero => exact J.elim
        | succ i => simpa using g4 i b J
       ·intro i b J
        cases i with
        | zero => exact J.elim
        | succ i => exact g5 i b J
       ·intro i u b J
        cases i with
        | zero => exact J.elim
        | succ i => exact g6 i u b J
       ·intro i ay b cu ax bP
        cases i with
        | zero => exact ax.elim
        | succ i =>
          cases ay with
          | zero => exact bP.elim
          | succ ay => exact g7 i ay b (by omega) ax bP
     | true =>
       have d_ := f3 aT
       simp only [bH.ok, aT, if_true] at d_
       split at d_
       ·rename_i x q bB
        obtain ⟨c7, gm, pM⟩ := d_
        obtain ⟨i_, ke, r0⟩ := ma gm
        have uB : bM s p.a = some (p.d, ca (fw x s) x (j.put q p.d.bV (s x))) := by
         rw [bB]; simp only [bM, c7, i_]; rfl
        obtain ⟨bf, t1, t2, t3, DN, t4, t5, t6, t7, t8, t9, t10, t11⟩ := kB h f1 f2 uB
        have eO : bH.take s p = ca (fw x s) x (j.put q p.d.bV (s x)) := by simp [bH.take, aT, bB]
        have jL : ∀ bC ∈ ps, x ∉ bC.a.R := fun bC cQ => ov bC cQ (.inl aT) x (by rw [bB]; simp [j.R])
        have uC : bH.take s p x = j.put q p.d.bV (s x) := by rw [eO, jt]
        have x2 : (bH.take s p x).R = [] := by
         rw [uC]; exact qf q _ _ _ c7 (.inl i_) (fun _ => by cases ab : p.d <;> first | rfl | (rw [ab] at gm; simp [j.dK] at gm))
        obtain ⟨Sn, cj, g1, g2, g3, g4, g5, g6, g7, g8⟩ := ih vs (bH.take s p) bf (by rw [eO]; exact t1) hl (by
         intro i bC cc ak aC
         obtain ⟨bn, bs, cT⟩ := p7 (i + 1) bC cc (by simpa using ak) (by simpa using aC)
         have hm : bC ∈ ps := List.mem_of_getElem? ak
         refine ⟨bn, ?_, ?_⟩
         ·have := t11 _ _ _ bs
          rw [bB] at this
          rw [eO]
          simp only [j.owner, gN] at this
          rwa [qd _ (jL bC hm)] at this
         ·intro ed
          have := cT ed
          simp only [bH.ok, ed, if_true] at this ⊢
          split at this
          ·rename_i y fP nn
           have cu : y ≠ x := fun e => jL bC hm (by rw [nn, e]; simp [j.R])
           rw [eO, gw _ _ cu]
           have aG := fh this.1 (.inl (ma this.2.1).1)
           simp only [fw, tu aG]
           exact this
          ·exact this.elim) jK
        have aE : dc s (p :: ps) = dc (bH.take s p) ps := rfl
        have mb : dc (bH.take s p) ps x = j.put q p.d.bV (s x) := by
         rw [uA x2 (fun bC cQ _ => jL bC cQ), uC]
        rw [aE]
        refine ⟨fun i => match i with | 0 => DN | i + 1 => Sn i, cj, g1, fun u b J => t9 u b (g2 u b J), ?_, ?_, ?_, ?_, ?_, ?_⟩
        rotate_left 5
        ·intro aS cc az ab fL
         refine g8 aS cc az (fun bC cQ => ab bC (by simp [cQ])) ?_
         have := t11 _ _ _ fL
         rw [bB] at this
         rw [eO]
         simp only [j.owner, gN] at this
         rwa [qd _ (ab p (by simp) aT x (by rw [bB]; simp [j.R]))] at this
        ·intro i bC cc ak aC ed
         cases i with
         | zero =>
           simp at ak aC; subst ak aC
           have r1 := f2
           rw [bB, ar] at r1
           obtain ⟨bQ, a0, bA, bG, DO⟩ := r1 _ c7 i_
           refine ⟨x, q, a0, bB, ?_, ?_, ?_, ?_, ?_, t3, t4⟩
           ·rw [mb]; exact x1 q _ _ _ c7
           ·rw [mb, bG]; exact DH w q _ _ _ _ _ _ _ c7 (j.lU _) bA
           ·rw [mb, ← uC]; exact x2
           ·intro bR; subst bR
            simp only [j.sub, Option.some.injEq] at c7
            have := (ar.bE (by rw [c7]; exact ke)).1 (h.cl x)
            rw [c7] at this
            exact this.1
           ·intro bR
            have aG := fh c7 (.inl i_)
            rw [mb]
            cases q with
            | nil => exact (bR rfl).elim
            | cons k q => rcases mV k q p.d.bV (s x) with ⟨af, gs, aE, e⟩ | ⟨af, gs, aE, e⟩ | ⟨sz, xs, bT, aE, e⟩ | ⟨y, z, aE, e⟩ | e <;> rw [e] <;> first | rfl | exact aG
         | succ i => exact g3 i bC cc (by simpa using ak) (by simpa using aC) ed
        ·intro i b J
         cases i with
         | zero => exact ⟨p, rfl, aT⟩
         | succ i => simpa using g4 i b J
        ·intro i b J
         cases i with
         | zero => exact t10 b J
         | succ i => obtain ⟨u, hu⟩ := g5 i b J; exact ⟨u, t9 u b hu⟩
        ·intro i u b J
         cases i with
         | zero => exact fun hu => t7 u b J (g2 u b hu)
         | succ i => exact g6 i u b J
        ·intro i ay b cu ax bP
         cases i with
         | zero =>
           cases ay with
           | zero => exact cu rfl
           | succ ay => obtain ⟨u, hu⟩ := g5 ay b bP; exact t7 u b ax hu
         | succ i =>
           cases ay with
           | zero => obtain ⟨u, hu⟩ := g5 i b ax; exact t7 u b bP hu
           | succ ay => exact g7 i ay b (by omega) ax bP
       ·exact d_.elim
end
def dL (l : List j) : ad := fun i => l.getD i .hole
def eQ (l : List Value) : Nat → Value := fun i => l.getD i undef
def kf (P : Program) (f : FuncId) (args : Array Value) (w : World) (iN : Value → World → Prop) : Prop :=
 ((callFunc f args).run P w = .ok (.enter f args) w ∧ Calls P f args w (fun e ao => ∃ v, e = .returned v ∧ iN v ao)) ∨
 ∃ v ao, (callFunc f args).run P w = .ok (.value v) ao ∧ iN v ao
theorem kf.mono {P : Program} {f : FuncId} {args : Array Value} {w : World} {iN x3 : Value → World → Prop} (h : kf P f args w iN) (aD : ∀ v ao, iN v ao → x3 v ao) : kf P f args w x3 := by
 rcases h with ⟨U, aa⟩ | ⟨v, ao, U, aa⟩
 ·exact .inl ⟨U, Calls.mono aa fun e ao ⟨v, e, h⟩ => ⟨v, e, aD v ao h⟩⟩
 ·exact .inr ⟨v, ao, U, aD v ao aa⟩
def b5 (C : bp) (f : FuncId) (as : List j) (r : j) (outs : List j) : Prop :=
 ∀ (w : World) (F X : Nat → Prop) (S : Nat → Nat → Prop) (vs : List Value), vs.length = as.length → ba w F X F S (dL as) (eQ vs) w →
   kf C.P f vs.toArray w fun v ao => ∃ aY az, ba w F X aY az (dL (r :: outs)) (eQ (v :: vs)) ao
def j.res : j → Bool
 | .h _ _ => false
 | .ak _ _ => false
 | .J _ _ => false
 | .fn _ _ => false
 | _ => true
theorem x4 {d : j} (h : d.tree = true) : d.R = [] := by cases d <;> first | rfl | (simp [j.tree] at h)
mutual
theorem uD {s aj : ad} : ∀ (a : j) (d : j), (∀ u ∈ a.R, (s u).tree = true → aj u = s u) → view s a = some d → view aj a = some d
 | .h x q, d, hu, h => by
   have aG : (s x).tree = true := by
    simp only [view] at h
    split at h
    ·rename_i e c7
     cases e <;> simp only at h <;> first
      | (cases h; done)
      | (split at h
         ·cases h
         ·rename_i ak
          exact fh c7 (.inl (by simpa using ak)))
    ·cases h
   simp only [view] at h ⊢
   rw [hu x (by simp [j.R]) aG]; exact h
 | .ak x q, d, hu, h => by
   have aG : (s x).tree = true := by
    simp only [view] at h
    split at h
    ·rename_i ag
     split at h
     ·rename_i e c7; exact fh c7 (.inr ag)
     ·cases h
    ·cases h
   simp only [view] at h ⊢
   rw [hu x (by simp [j.R]) aG]; exact h
 | .J x q, d, hu, h => by simp [view] at h
 | .fn f cap, d, hu, h => by
   simp only [view, Option.map_eq_some_iff] at h ⊢
   obtain ⟨ds, U, aa⟩ := h
   exact ⟨ds, x5 cap ds (by simpa [j.R] using hu) U, aa⟩
 | .hole, d, hu, h => h
 | .bool _, d, hu, h => h
 | .c1, d, hu, h => h
 | .int _ _, d, hu, h => h
 | .str _, d, hu, h => h
 | .b_, d, hu, h => h
 | .bu, d, hu, h => h
 | .slice _, d, hu, h => h
 | .aJ _ _, d, hu, h => h
 | .ref _, d, hu, h => h
 | .bb _, d, hu, h => h
 | .agg _, d, hu, h => h
 | .tuple _, d, hu, h => h
 | .ch _, d, hu, h => h
theorem x5 {s aj : ad} : ∀ (as : List j) (ds : List j), (∀ u ∈ j.cJ as, (s u).tree = true → aj u = s u) → views s as = some ds → views aj as = some ds
 | [], ds, hu, h => h
 | a :: as, ds, hu, h => by
   simp only [j.cJ, List.mem_append] at hu
   simp only [views] at h ⊢
   split at h
   ·rename_i x y U aa
    rw [uD a x (fun u hm => hu u (.inl hm)) U, x5 as y (fun u hm => hu u (.inr hm)) aa]; exact h
   ·cases h
end
section
variable {C : bp} {w0 w ao : World} {F0 X F Fc : Nat → Prop} {S : Nat → Nat → Prop} {s aj : ad} {al gx : Nat → Value}
def DP (w : World) (F : Nat → Prop) (s : ad) (al : Nat → Value) (p : bH) (v : Value) (jM : Nat → Prop) : Prop :=
 p.g = true → p.o = .hole ∨ ∃ x q a0 d0, p.a = .h x q ∧ j.sub q (s x) = some d0 ∧ b2 w q (s x) (br (al x)) none = some (d0, br v, a0) ∧ (s x).R = [] ∧
  (q = [] → cA p.o (al x)) ∧ (q ≠ [] → (s x).tree = true) ∧ p.o.dK = true ∧ ai w F p.o (br v) jM ∧ p.o.wd = d0.wd ∧ ∀ v, fk d0 v → fk p.o v
theorem DQ : ∀ (ps : List bH) (vs : List Value) (s : ad) (S jM : Nat → Nat → Prop), ba w0 F0 X F S s al w → ps.length = vs.length →
  (∀ (i : Nat) (p : bH) (v : Value), ps[i]? = some p → vs[i]? = some v → DP w F s al p v (jM i)) →
  (∀ i b, jM i b → b < w.heap.size ∧ ¬ F b ∧ (X b ∨ w0.heap.size ≤ b) ∧ ∀ u, ¬ S u b) → (∀ i ay b, i ≠ ay → jM i b → ¬ jM ay b) → fA ps = true →
  ∃ cj, ba w0 F0 X F cj (ft s ps) al w ∧ ∀ u b, cj u b → S u b ∨ ∃ i, jM i b := by
 intro ps
 induction ps with
 | nil => intro vs s S jM h _ _ _ _ _; exact ⟨S, h, fun u b J => .inl J⟩
 | cons p ps ih =>
   intro vs s S jM h hl uE J ab gQ
   cases vs with
   | nil => simp at hl
   | cons v vs =>
     simp only [List.length_cons, Nat.add_right_cancel_iff] at hl
     simp only [fA, Bool.and_eq_true, List.all_eq_true, Bool.or_eq_true, Bool.not_eq_true'] at gQ
     obtain ⟨kd, jK⟩ := gQ
     have ov : ∀ bC ∈ ps, (p.g = true ∨ bC.g = true) → ∀ u ∈ p.a.R, u ∉ bC.a.R := by
      intro bC cQ aT u hu
      rcases kd bC cQ with e | e
      ·rcases aT with aT | aT <;> simp [aT] at e
      ·simpa using e u hu
     have skip : bH.fs s p = s → ∃ cj, ba w0 F0 X F cj (ft s (p :: ps)) al w ∧ ∀ u b, cj u b → S u b ∨ ∃ i, jM i b := by
      intro eO
      obtain ⟨cj, g1, g2⟩ := ih vs s S (fun i => jM (i + 1)) h hl (fun i bC cc ak aC => uE (i + 1) bC cc (by simpa using ak) (by simpa using aC)) (fun i b h => J (i + 1) b h)
       (fun i ay b cu => ab (i + 1) (ay + 1) b (by omega)) jK
      refine ⟨cj, ?_, fun u b hu => (g2 u b hu).imp id fun ⟨i, ax⟩ => ⟨i + 1, ax⟩⟩
      show ba _ _ _ _ _ (ft (bH.fs s p) ps) _ _
      rw [eO]; exact g1
     cases aT : p.g with
     | false => exact skip (by simp [bH.fs, aT])
     | true =>
       rcases uE 0 p v rfl rfl aT with bq | ⟨x, q, a0, d0, bB, bA, bG, DO, m3, DR, uF, DS, DT, DU⟩
       ·exact skip (by simp only [bH.fs, aT, bq, if_true])
       ·obtain ⟨i_, ke, DV⟩ := ma uF
        have eO : bH.fs s p = ca (hE x s) x (j.put q p.o (s x)) := by
         simp only [bH.fs, aT, if_true, bB]
         cases DW : p.o <;> first | rfl | (rw [DW] at uF; simp [j.dK] at uF)
        have step := h.fs (x := x) (q := q) (aS := p.o) bA bG DV (fun bR => ⟨ke, m3 bR⟩) (fun k r bR => ⟨DR (by rw [bR]; simp), DU⟩) DT DS
         (fun b h => (J 0 b h).1) (fun b h => (J 0 b h).2.1) (fun u b h => (J 0 b h).2.2.2 u) (fun b h => (J 0 b h).2.2.1)
        rw [← eO] at step
        obtain ⟨cj, g1, g2⟩ := ih vs (bH.fs s p) _ (fun i => jM (i + 1)) step hl (by
         intro i bC cc ak aC ed
         have hm : bC ∈ ps := List.mem_of_getElem? ak
         rcases uE (i + 1) bC cc (by simpa using ak) (by simpa using aC) ed with bq | ⟨y, fP, a7, d1, bn, bs, cT, cm, c8, c4, fq, hr, h8⟩
         ·exact .inl bq
         ·have cu : y ≠ x := fun e => ov bC hm (.inl aT) x (by rw [bB]; simp [j.R]) (by rw [bn, e]; simp [j.R])
          have i5 : bH.fs s p y = s y := by
           rw [eO, gw _ _ cu]
           exact uj _ (by rw [cm]; simp)
          exact .inr ⟨y, fP, a7, d1, bn, by rw [i5]; exact bs, by rw [i5]; exact cT, by rw [i5]; exact cm, c8, by rw [i5]; exact c4, fq, hr, h8⟩)
         (by
          intro i b ax
          obtain ⟨h5, fK, kJ, ct⟩ := J (i + 1) b ax
          refine ⟨h5, fK, kJ, fun u hu => ?_⟩
          simp only [eu] at hu
          split at hu
          ·rcases hu with hu | hu
           ·exact ct _ hu
           ·exact ab 0 (i + 1) b (by omega) hu ax
          ·exact ct _ hu)
         (fun i ay b cu => ab (i + 1) (ay + 1) b (by omega)) jK
        refine ⟨cj, g1, fun u b hu => ?_⟩
        rcases g2 u b hu with hu | ⟨i, ax⟩
        ·simp only [eu] at hu
         split at hu
         ·rename_i e; subst e
          exact hu.imp id fun h => ⟨0, h⟩
         ·exact .inl hu
        ·exact .inr ⟨i + 1, ax⟩
def gS (ps : List bH) : Bool := ps.any fun p => !p.g && !p.a.R.isEmpty
theorem x6 (h : ba w0 F0 X F S s al w) {ps : List bH} {vs : List Value} {f : FuncId} {r : j} (hl : ps.length = vs.length)
  (fL : ∀ (i : Nat) (p : bH) (v : Value), ps[i]? = some p → vs[i]? = some v → p.a.plain = true ∧ ar w F s al p.a v (fun _ => False))
  (d_ : ∀ p ∈ ps, p.ok s) (gQ : fA ps = true) (bo : ∀ (Fc ia : Nat → Prop) (cS : Nat → Nat → Prop), (∀ b, F b → Fc b) → (∀ b, ia b → ∃ u, S u b) → ba w Fc ia Fc cS (dL (ps.map (·.d))) (eQ vs) w →
   kf C.P f vs.toArray w fun v ao => ∃ aY az, ba w Fc ia aY az (dL (r :: ps.map (·.o))) (eQ (v :: vs)) ao) (aD : r.res = true)
  (aO : gS ps = true → r.c6 = true ∧ ∀ p ∈ ps, p.o.c6 = true) :
  kf C.P f vs.toArray w fun v ao => ∃ aY az, ba w0 F0 X aY az (ft (dc s ps) ps) al ao ∧ hh w0 X aY az (ft (dc s ps) ps) al ao r v ∧ ∀ b, F b → aY b ∧ ao.heap[b]? = w.heap[b]? := by
 obtain ⟨Sn, bf, g1, g2, g3, g4, g5, g6, g7, g8⟩ := DM ps vs s S h hl (fun i p v ak aC => ⟨(fL i p v ak aC).1, (fL i p v ak aC).2, fun _ => d_ p (List.mem_of_getElem? ak)⟩) gQ
 have apart : ∀ (i ay : Nat) (p bC : bH), ps[i]? = some p → ps[ay]? = some bC → i ≠ ay → (p.g = true ∨ bC.g = true) → ∀ u ∈ p.a.R, u ∉ bC.a.R := by
  clear fL d_ bo aO g1 g3 g4 g8 hl
  induction ps with
  | nil => intro i ay p bC ak; simp at ak
  | cons eM ps ih =>
    simp only [fA, Bool.and_eq_true, List.all_eq_true, Bool.or_eq_true, Bool.not_eq_true'] at gQ
    obtain ⟨kd, jK⟩ := gQ
    have ov : ∀ bC ∈ ps, (eM.g = true ∨ bC.g = true) → ∀ u ∈ eM.a.R, u ∉ bC.a.R := by
     intro bC cQ aT u hu
     rcases kd bC cQ with e | e
     ·rcases aT with aT | aT <;> simp [aT] at e
     ·simpa using e u hu
    intro i ay p bC ak cQ cu aT u hu
    cases i with
    | zero =>
      simp at ak; subst ak
      cases ay with
      | zero => exact (cu rfl).elim
      | succ ay => exact ov bC (List.mem_of_getElem? (by simpa using cQ)) aT u hu
    | succ i =>
      cases ay with
      | zero =>
        simp at cQ; subst cQ
        exact fun qg => ov p (List.mem_of_getElem? (by simpa using ak)) aT.symm u qg hu
      | succ ay => exact ih jK i ay p bC (by simpa using ak) (by simpa using cQ) (by omega) aT u hu
 let Fc : Nat → Prop := fun b => F b ∨ (gS ps = true ∧ ∃ u, bf u b)
 let ia : Nat → Prop := fun b => ∃ i, Sn i b
 have uG : ∀ b, F b → ¬ ia b := fun b aN ⟨i, ax⟩ => by obtain ⟨u, hu⟩ := g5 i b ax; exact h.dz u b hu aN
 have qh : ∀ u b, bf u b → ¬ ia b := fun u b hu ⟨i, ax⟩ => g6 i u b ax hu
 have r2 : ∀ b, ia b → (X b ∨ w0.heap.size ≤ b) ∧ b < w.heap.size := fun b ⟨i, ax⟩ => by obtain ⟨u, hu⟩ := g5 i b ax; exact ⟨h.cq u b hu, h.cZ u b hu⟩
 have pre : ba w Fc ia Fc Sn (dL (ps.map (·.d))) (eQ vs) w := by
  refine ⟨fun _ h => h, fun _ h => .inl h, ?_, fun i b ax => (r2 b ⟨i, ax⟩).2, ?_, fun i ay b cu => g7 i ay b cu, fun i b ax => .inl ⟨i, ax⟩, ?_, fun _ _ _ => rfl, Nat.le_refl _, rfl, rfl, rfl⟩
  ·rintro b (J | ⟨_, u, hu⟩)
   ·exact h.dg b J
   ·exact g1.cZ u b hu
  ·rintro i b ax (J | ⟨_, u, hu⟩)
   ·exact uG b J ⟨i, ax⟩
   ·exact g6 i u b ax hu
  ·intro t
   cases ak : ps[t]? with
   | none =>
     have : dL (ps.map (·.d)) t = .hole := by simp [dL, List.getD, ak]
     rw [this, ar]; trivial
   | some p =>
     have cK : t < vs.length := by rw [← hl]; exact (List.getElem?_eq_some_iff.1 ak).1
     have aC : vs[t]? = some vs[t] := List.getElem?_eq_getElem cK
     have aE : dL (ps.map (·.d)) t = p.d := by simp [dL, List.getD, ak]
     have aI : eQ vs t = vs[t] := by simp [eQ, List.getD, aC]
     rw [aE, aI]
     have hm : p ∈ ps := List.mem_of_getElem? ak
     have ah := d_ p hm
     cases aT : p.g with
     | true =>
       obtain ⟨x, q, a0, bn, bs, cT, cm, c8, c4, fq, hr⟩ := g3 t p _ ak aC aT
       simp only [bH.ok, aT, if_true, bn] at ah
       exact (ar.bE (ma ah.2.1).2.1).2 ⟨fq, ai.mono (fun b J => .inl J) _ _ _ _ (fun _ h => h) hr⟩
     | false =>
       simp only [bH.ok, aT] at ah
       obtain ⟨f1, f2⟩ := fL t p _ ak aC
       have x7 : ∀ bC ∈ ps, bC.g = true → ∀ u ∈ bC.a.R, u ∉ p.a.R := by
        intro bC cQ ed u hu
        obtain ⟨ay, bP⟩ := List.getElem?_of_mem cQ
        refine apart ay t bC p bP ak (fun e => ?_) (.inl ed) u hu
        subst e; rw [ak] at bP; simp only [Option.some.injEq] at bP; rw [bP, ed] at aT; cases aT
       have r1 := g8 _ _ _ x7 f2
       have hJ : view (dc s ps) p.a = some p.d := uD _ _ (fun u hu aG => uA (x4 aG) (fun bC cQ ed qg => x7 bC cQ ed u qg hu)) (by simpa using ah)
       refine ar.nothing (DG f1 hJ) ((DI g1 (Fc := Fc) (fun b J => .inl J) (SizeOf.sizeOf p.a)).1 p.a _ p.d (Nat.le_refl _) ?_ hJ r1)
       intro u hu b J
       refine .inr ⟨?_, u, J⟩
       simp only [gS, List.any_eq_true]
       refine ⟨p, hm, ?_⟩
       cases hF : p.a.R with
       | nil => rw [hF] at hu; cases hu
       | cons _ _ => simp [aT]
 refine kf.mono (bo Fc ia Sn (fun b J => .inl J) (fun b ⟨i, ax⟩ => g5 i b ax) pre) ?_
 rintro v ao ⟨aY, az, ag⟩
 have keep : ∀ b, b < w.heap.size → ¬ ia b → ao.heap[b]? = w.heap[b]? := ag.old
 let kg : Nat → Prop := fun b => if gS ps = true then F b else aY b
 have x8 : ∀ b, F b → aY b := fun b J => ag.eF b (.inl J)
 have ow : ∀ b, F b → kg b := fun b J => by
  simp only [kg]; split
  ·exact J
  ·exact x8 b J
 have qi : ∀ b, kg b → aY b := fun b J => by
  simp only [kg] at J; split at J
  ·exact x8 b J
  ·exact J
 have x9 : ∀ b, kg b → F b ∨ ia b ∨ w.heap.size ≤ b := fun b J => by
  simp only [kg] at J; split at J
  ·exact .inl J
  ·rename_i l4
   rcases ag.eW b J with (J | ⟨U, _⟩) | J | J
   ·exact .inl J
   ·exact (l4 U).elim
   ·exact .inr (.inl J)
   ·exact .inr (.inr J)
 have mid : ba w0 F0 X kg bf (dc s ps) al ao := by
  refine ⟨fun b J => ow b (g1.eF b J), ?_, fun b J => ag.dg b (qi b J), fun t b J => Nat.lt_of_lt_of_le (g1.cZ t b J) ag.size, ?_, g1.dt, g1.cq, ?_, ?_, Nat.le_trans g1.size ag.size, ag.os.trans g1.os, ag.tape.trans g1.tape, ag.output.trans g1.output⟩
  ·intro b J
   rcases x9 b J with J | J | J
   ·exact g1.eW b J
   ·rcases (r2 b J).1 with h | h
    ·exact .inr (.inl h)
    ·exact .inr (.inr h)
   ·exact .inr (.inr (Nat.le_trans g1.size J))
  ·intro t b aG J
   rcases x9 b J with J | J | J
   ·exact g1.dz t b aG J
   ·exact qh t b aG J
   ·exact absurd (g1.cZ t b aG) (by omega)
  ·intro t
   exact ar.frame (Sx := bf) (fun b J => keep b (h.dg b J) (uG b J)) ow (fun x b J => keep b (g1.cZ x b J) (qh x b J)) g1.cl _ _ _ (fun b J => keep b (g1.cZ t b J) (qh t b J)) (g1.cl t)
  ·intro b J gj
   refine (keep b (Nat.lt_of_lt_of_le J g1.size) fun an => ?_).trans (g1.old b J gj)
   rcases (r2 b an).1 with h | h
   ·exact gj h
   ·omega
 have x_ : ∀ (d : j) (cs : List Value) (cq : Nat → Prop), (gS ps = true → d.c6 = true) → ai ao aY d cs cq → ai ao kg d cs cq := by
  intro d cs cq ub eI
  by_cases hle : gS ps = true
  ·exact ai.c6 d cs cq (ub hle) eI
  ·exact ai.mono (fun b J => by simp only [kg]; rw [if_neg hle]; exact J) _ _ _ _ (fun _ h => h) eI
 have bound : ∀ i b, az i b → b < ao.heap.size ∧ ¬ kg b ∧ (X b ∨ w0.heap.size ≤ b) ∧ ∀ u, ¬ bf u b := by
  intro i b J
  refine ⟨ag.cZ i b J, fun aN => ag.dz i b J (qi b aN), ?_, fun u hu => ?_⟩
  ·rcases ag.cq i b J with an | an
   ·exact (r2 b an).1
   ·exact .inr (Nat.le_trans g1.size an)
  ·rcases ag.cq i b J with an | an
   ·exact qh u b hu an
   ·exact absurd (g1.cZ u b hu) (by omega)
 obtain ⟨cj, bn, bs⟩ := DQ ps vs (dc s ps) bf (fun i => az (i + 1)) mid hl (by
  intro i p cc ak aC aT
  have hm : p ∈ ps := List.mem_of_getElem? ak
  have ah := d_ p hm
  obtain ⟨x, q, a0, aE, aI, bg, bX, b0, bh, bc, iF⟩ := g3 i p cc ak aC aT
  simp only [bH.ok, aT, if_true, aE] at ah
  rcases ah.2.2 with bq | bq
  ·exact .inl bq
  ·obtain ⟨ev, l2, r3⟩ := DJ ah.2.1 bq.1 bq.2
   refine .inr ⟨x, q, a0, p.d.bV, aE, aI, ?_, bX, fun bR => l2 _ (b0 bR), bh, bq.1, ?_, ev.trans (j.lU _).symm, r3⟩
   ·cases q with
    | nil => simpa only [b2] using bg
    | cons k q =>
      have aG := bh (by simp)
      rw [tr (k :: q) _ _ (bf x) none _ ((ar.bE aG).1 (g1.cl x)).2 aI (fun b J => keep b (g1.cZ x b J) (qh x b J))]
      exact bg
   ·have := ag.cl (i + 1)
    have ho : dL (r :: ps.map (·.o)) (i + 1) = p.o := by simp [dL, List.getD, ak]
    have j9 : eQ (v :: vs) (i + 1) = cc := by simp [eQ, List.getD, aC]
    rw [ho, j9] at this
    exact x_ _ _ _ (fun hle => (aO hle).2 p hm) ((ar.bE (ma bq.1).2.1).1 this).2)
  (fun i b J => bound (i + 1) b J) (fun i ay b cu => ag.dt (i + 1) (ay + 1) b (by omega)) gQ
 refine ⟨kg, cj, bn, ?_, fun b J => ⟨ow b J, keep b (h.dg b J) (uG b J)⟩⟩
 have bz := ag.cl 0
 have ho : dL (r :: ps.map (·.o)) 0 = r := rfl
 have j9 : eQ (v :: vs) 0 = v := rfl
 rw [ho, j9] at bz
 cases aG : r.tree with
 | false =>
   cases r <;> first
    | (simp [j.tree] at aG; done)
    | (simp [j.res] at aD; done)
    | exact .inl ⟨rfl, by rw [ar]; trivial⟩
 | true =>
   obtain ⟨s1, s2⟩ := (ar.bE aG).1 bz
   have ee := x_ _ _ _ (fun hle => (aO hle).1) s2
   refine .inr ⟨aG, s1, az 0, ee, fun b J => (bound 0 b J).1, fun b J => (bound 0 b J).2.1, fun u b J hu => ?_, fun b J => (bound 0 b J).2.2.1⟩
   rcases bs u b hu with hu | ⟨i, ax⟩
   ·exact (bound 0 b J).2.2.2 u hu
   ·exact ag.dt 0 (i + 1) b (by omega) J ax
theorem DX (h : ba w0 F0 X F S s al w) {ps : List bH} {vs : List Value} {f : FuncId} {r : j} (hl : ps.length = vs.length)
  (fL : ∀ (i : Nat) (p : bH) (v : Value), ps[i]? = some p → vs[i]? = some v → p.a.plain = true ∧ ar w F s al p.a v (fun _ => False))
  (d_ : ∀ p ∈ ps, p.ok s) (gQ : fA ps = true) (bo : b5 C f (ps.map (·.d)) r (ps.map (·.o))) (aD : r.res = true)
  (aO : gS ps = true → r.c6 = true ∧ ∀ p ∈ ps, p.o.c6 = true) :
  kf C.P f vs.toArray w fun v ao => ∃ aY az, ba w0 F0 X aY az (ft (dc s ps) ps) al ao ∧ hh w0 X aY az (ft (dc s ps) ps) al ao r v ∧ ∀ b, F b → aY b ∧ ao.heap[b]? = w.heap[b]? :=
 x6 h hl fL d_ gQ (fun Fc ia cS _ _ ak => bo w Fc ia cS vs (by simp [hl]) ak) aD aO
end
structure bm where
 dst : Option Nat
 aV : dH
 guard : Option (Nat × Bool)
def qj (ops : Array Oper) : Option (Nat × Bool) → Option (Option (Nat × Bool))
 | none => some none
 | some (ay, b) => match (ops[ay]?).bind (·.dst) with
   | some t => some (some (t, b))
   | none => none
structure Fr where
 n : Nat
 fx : List Nat
def ib (n : Fr) : Option Nat → Bool
 | none => true
 | some t => decide (t < n.n) && !n.fx.contains t
def mc (op : Op) : dH := match cb op with
 | some aV => aV
 | none => .bad
def kO (n : Fr) (ops : Array Oper) (o : Oper) : Option bm :=
 if ib n o.dst = true then match qj ops o.guard with
  | some g => some ⟨o.dst, mc o.op, g⟩
  | none => none
 else none
def kP (n : Fr) (ops : Array Oper) : List Oper → Option (List bm)
 | [] => some []
 | o :: os => match kO n ops o, kP n ops os with
   | some r, some rs => some (r :: rs)
   | _, _ => none
def r4 (C : bp) (s : ad) (f : aq) (args : List aq) (K : j → ad → Prop) : Prop :=
 ∃ (g : FuncId) (caps : List j) (ps : List bH) (r : j), aw s f = .fn g caps ∧ j.dr caps = true ∧ ps.map (·.a) = args.map (aw s) ++ caps ∧ (∀ p ∈ ps, p.ok s) ∧ fA ps = true ∧
   b5 C g (ps.map (·.d)) r (ps.map (·.o)) ∧ r.res = true ∧ (gS ps = true → r.c6 = true ∧ ∀ p ∈ ps, p.o.c6 = true) ∧ K r (ft (dc s ps) ps)
mutual
def j.eJ (s : ad) : j → Bool
 | .h x q => q.isEmpty && (s x).own
 | .J x _ => !(s x).plain
 | .ak _ _ => false
 | .hole => true
 | .fn _ cap => j.me s cap
 | d => d.plain
def j.me (s : ad) : List j → Bool
 | [] => true
 | d :: ds => d.eJ s && j.me s ds
end
def ln (s : ad) : List (Nat × j) → ad
 | [] => s
 | p :: L => ln (ca s p.1 p.2) L
def kQ (s : ad) : List (Nat × j) → Bool
 | [] => true
 | p :: L => p.2.eJ s && kQ s L
def ic (s : ad) (us : List Nat) : List (Nat × j) := us.map fun u => (u, s u)
def jN (C : bp) (s : ad) (aV : dH) (K : j → ad → Prop) : Prop :=
 match aV with
 | .call f args => ∃ (g : FuncId) (caps : List j) (ps : List bH) (r : j), aw s f = .fn g caps ∧ j.dr caps = true ∧ ps.map (·.a) = args.map (aw s) ++ caps ∧ (∀ p ∈ ps, p.ok s) ∧ fA ps = true ∧
   b5 C g (ps.map (·.d)) r (ps.map (·.o)) ∧ r.res = true ∧ (gS ps = true → r.c6 = true ∧ ∀ p ∈ ps, p.o.c6 = true) ∧ K r (ft (dc s ps) ps)
 | .shr aV => ∃ av s1, aW C s aV = some (av, s1) ∧ av.tree = true ∧ (∀ vs, av ≠ .tuple vs) ∧ K av.share s1
 | .iJ f args u x => s u = .h x [] ∧ (s x).own = true ∧ r4 C s f args fun av s1 => s1 u = .hole ∧ (s1 x).own = true ∧ K av (ca s1 u (.h x []))
 | .iK f args us => kQ s (ic s us) = true ∧ r4 C s f args fun av s1 => kQ s1 (ic s us) = true ∧ K av (ln s1 (ic s us))
 | aV => ∃ av s1, aW C s aV = some (av, s1) ∧ K av s1
theorem r5 {C : bp} {s : ad} {aV : dH} {K b6 : j → ad → Prop} (h : jN C s aV K) (ah : ∀ av s, K av s → b6 av s) : jN C s aV b6 := by
 cases aV with
 | call f args =>
   obtain ⟨g, caps, ps, r, U, dV, aa, au, aK, a1, bN, bS, df⟩ := h
   exact ⟨g, caps, ps, r, U, dV, aa, au, aK, a1, bN, bS, ah _ _ df⟩
 | shr aV =>
   obtain ⟨av, s1, U, aa, au, aK⟩ := h
   exact ⟨av, s1, U, aa, au, ah _ _ aK⟩
 | iJ f args u x =>
   obtain ⟨bn, bs, g, caps, ps, r, U, dV, aa, au, aK, a1, bN, bS, df, e1, eK⟩ := h
   exact ⟨bn, bs, g, caps, ps, r, U, dV, aa, au, aK, a1, bN, bS, df, e1, ah _ _ eK⟩
 | iK f args us =>
   obtain ⟨bs, g, caps, ps, r, U, dV, aa, au, aK, a1, bN, bS, df, e1⟩ := h
   exact ⟨bs, g, caps, ps, r, U, dV, aa, au, aK, a1, bN, bS, df, ah _ _ e1⟩
 | _ =>
   obtain ⟨av, s1, U, aa⟩ := h
   exact ⟨av, s1, U, ah _ _ aa⟩
def hM (C : bp) (s : ad) (o : bm) (K : ad → Prop) : Prop :=
 match o.guard with
 | none => jN C s o.aV fun av s1 => K (fin s1 o.dst av)
 | some (t, b) => match s t with
   | .bool dk => if dk = b then jN C s o.aV (fun av s1 => K (fin s1 o.dst av)) else K (fin s o.dst (.tuple []))
   | .tuple [] => K (fin s o.dst (.tuple []))
   | _ => False
def ht (C : bp) (s : ad) : List bm → (ad → Prop) → Prop
 | [], K => K s
 | o :: os, K => hM C s o fun s1 => ht C s1 os K
def gn (C : bp) (ros : List bm) (s : ad) : List Nat → (ad → Prop) → Prop
 | [], K => K s
 | i :: l, K => match ros[i]? with
   | none => gn C ros s l K
   | some o => hM C s o fun s1 => gn C ros s1 l K
theorem DY (C : bp) (K : ad → Prop) : ∀ (rs pre : List bm) (s : ad), ht C s rs K → gn C (pre ++ rs) s ((List.range rs.length).map (· + pre.length)) K := by
 intro rs
 induction rs with
 | nil => intro pre s h; exact h
 | cons r rs ih =>
   intro pre s h
   rw [List.length_cons, List.range_succ_eq_map, List.map_cons, List.map_map]
   simp only [gn, Nat.zero_add]
   rw [List.getElem?_append_right (Nat.le_refl _)]
   simp only [Nat.sub_self, List.getElem?_cons_zero]
   have key : ∀ s1, ht C s1 rs K → gn C (pre ++ r :: rs) s1 ((List.range rs.length).map ((fun x => x + pre.length) ∘ Nat.succ)) K := by
    intro s1 U
    have := ih (pre ++ [r]) s1 U
    simp only [List.append_assoc, List.singleton_append, List.length_append, List.length_singleton] at this
    have e : ((fun x => x + pre.length) ∘ Nat.succ) = fun x => x + (pre.length + 1) := by funext x; simp; omega
    rw [e]; exact this
   simp only [ht] at h
   unfold hM at h ⊢
   split
   ·rename_i aT; rw [aT] at h; exact r5 h fun av s1 => key _
   ·rename_i t b aT
    rw [aT] at h
    simp only at h
    split
    ·rename_i dk R
     rw [R] at h
     simp only at h
     split
     ·rename_i J; rw [if_pos J] at h; exact r5 h fun av s1 => key _
     ·rename_i J; rw [if_neg J] at h; exact key _ h
    ·rename_i R; rw [R] at h; exact key _ h
    ·rename_i U aa
     split at h
     ·exact U _ (by assumption)
     ·exact aa (by assumption)
     ·exact h
structure Rel (w0 : World) (F0 X : Nat → Prop) (n : Fr) (ρ : Nat → Value) (s : ad) (a : Act) (w : World) : Prop where
 defers : a.defers = []
 size : a.tmps.size = n.n
 fixed : ∀ i ∈ n.fx, a.tmps.getD i undef = ρ i
 rel : ∃ F S, ba w0 F0 X F S s (fun t => a.tmps.getD t undef) w
section
variable {C : bp} {w0 w : World} {F0 X : Nat → Prop} {n : Fr} {ρ : Nat → Value} {s s1 : ad} {a : Act} {av : j} {Q : Exit → Act → World → Prop}
theorem uH {dst : Option Nat} (v : Value) (R : a.tmps.size = n.n) (ab : ib n dst = true) :
  (fun t => (a.put dst v).tmps.getD t undef) = mX (fun t => a.tmps.getD t undef) dst v ∧ (a.put dst v).tmps.size = n.n ∧ (a.put dst v).defers = a.defers := by
 cases dst with
 | none => exact ⟨rfl, R, rfl⟩
 | some d =>
   simp only [ib, Bool.and_eq_true, decide_eq_true_eq] at ab
   refine ⟨?_, by simp [Act.put, R], rfl⟩
   funext t
   simp only [Act.put, mX, ca, Array.getD_eq_getD_getElem?]
   by_cases h : t = d
   ·subst h
    rw [if_pos rfl, Array.getElem?_setIfInBounds_self_of_lt (by omega)]; rfl
   ·rw [if_neg h, Array.getElem?_setIfInBounds_ne (fun e => h e.symm)]
theorem Rel.put {F S} (ab : a.defers = []) (R : a.tmps.size = n.n) (bo : ∀ i ∈ n.fx, a.tmps.getD i undef = ρ i) {ao : World} (aD : ba w0 F0 X F S s (fun t => a.tmps.getD t undef) ao) {v : Value} (aC : hh w0 X F S s (fun t => a.tmps.getD t undef) ao av v)
  {dst : Option Nat} (d_ : ib n dst = true) : Rel w0 F0 X n ρ (fin s dst av) (a.put dst v) ao := by
 obtain ⟨aE, aI, bg⟩ := uH (n := n) (dst := dst) v R d_
 obtain ⟨az, aX⟩ := aD.fin aC dst
 refine ⟨bg.trans ab, aI, fun i ax => ?_, F, az, by rw [aE]; exact aX⟩
 rw [congrFun aE i]
 cases dst with
 | none => exact bo i ax
 | some d =>
   simp only [ib, Bool.and_eq_true, Bool.not_eq_true', List.contains_eq_mem, decide_eq_false_iff_not] at d_
   have cu : i ≠ d := fun e => d_.2 (by rw [← e]; exact ax)
   simp only [mX]
   rw [gw _ _ cu]
   exact bo i ax
theorem Rel.skip (h : Rel w0 F0 X n ρ s a w) {dst : Option Nat} (d_ : ib n dst = true) : Rel w0 F0 X n ρ (fin s dst (.tuple [])) (a.put dst undef) w := by
 obtain ⟨ab, R, bo, F, S, aD⟩ := h
 refine Rel.put (av := .tuple []) ab R bo aD (.inl ⟨rfl, (ar.bE (d := .tuple []) rfl).2 ⟨?_, ?_⟩⟩) d_
 ·exact ⟨#[], rfl, rfl, fun k d x ah => by simp at ah⟩
 ·rw [ai, aH]; rfl
theorem ya {F : Nat → Prop} {al : Nat → Value} {w : World} : ∀ {ds es : List j} {vs us : List Value}, cx w F s al ds vs → cx w F s al es us → cx w F s al (ds ++ es) (vs ++ us) := by
 intro ds
 induction ds with
 | nil => intro es vs us U aa; rw [cx] at U; subst U; exact aa
 | cons d ds ih =>
   intro es vs us U aa
   rw [cx] at U
   obtain ⟨v, fW, rfl, g1, g2⟩ := U
   rw [List.cons_append, List.cons_append, cx]
   exact ⟨v, _, rfl, g1, ih g2 aa⟩
theorem yb {F : Nat → Prop} {al : Nat → Value} {w : World} : ∀ {ds : List j} {vs : List Value}, cx w F s al ds vs → ds.length = vs.length ∧ ∀ (i : Nat) (d : j) (v : Value), ds[i]? = some d → vs[i]? = some v → ar w F s al d v (fun _ => False) := by
 intro ds
 induction ds with
 | nil => intro vs h; rw [cx] at h; subst h; exact ⟨rfl, fun i d v h => by simp at h⟩
 | cons d ds ih =>
   intro vs h
   rw [cx] at h
   obtain ⟨v, fW, rfl, g1, g2⟩ := h
   obtain ⟨bn, bs⟩ := ih g2
   refine ⟨by simp [bn], fun i aS cc ab aC => ?_⟩
   cases i with
   | zero => simp at ab aC; subst ab aC; exact g1
   | succ i => exact bs i aS cc (by simpa using ab) (by simpa using aC)
theorem kR {op : Op} {aV : dH} (h : mc op = aV) : aV = .bad ∨ cb op = some aV := by
 unfold mc at h
 split at h
 ·subst h; right; assumption
 ·exact .inl h.symm
theorem DZ {op : Op} {aV : dH} : cb op ≠ some (.shr aV) := by
 intro h
 unfold cb at h
 split at h <;> (try split at h) <;> (try split at h) <;> (try split at h) <;> (try simp [Option.map_eq_some_iff] at h)
theorem D0 {op : Op} {f : aq} {args : List aq} {u x : Nat} : cb op ≠ some (.iJ f args u x) := by
 intro h
 unfold cb at h
 split at h <;> (try split at h) <;> (try split at h) <;> (try split at h) <;> (try simp [Option.map_eq_some_iff] at h)
theorem D1 {op : Op} {f : aq} {args : List aq} {us : List Nat} : cb op ≠ some (.iK f args us) := by
 intro h
 unfold cb at h
 split at h <;> (try split at h) <;> (try split at h) <;> (try split at h) <;> (try simp [Option.map_eq_some_iff] at h)
theorem D2 {op : Op} {T : TypeId} {x : aq} : cb op ≠ some (.hj T x) := by
 intro h
 unfold cb at h
 split at h <;> (try split at h) <;> (try split at h) <;> (try split at h) <;> (try simp [Option.map_eq_some_iff] at h)
theorem D3 {op : Op} {x : aq} : cb op ≠ some (.l7 x) := by
 intro h
 unfold cb at h
 split at h <;> (try split at h) <;> (try split at h) <;> (try split at h) <;> (try simp [Option.map_eq_some_iff] at h)
theorem D4 {op : Op} {x : aq} : cb op ≠ some (.lj x) := by
 intro h
 unfold cb at h
 split at h <;> (try split at h) <;> (try split at h) <;> (try split at h) <;> (try simp [Option.map_eq_some_iff] at h)
theorem D5 {op : Op} {x : aq} (h : cb op = some (.cd x)) : ∃ bW, op = .move bW ∧ cr bW = some x := by
 unfold cb at h
 split at h <;> (try split at h) <;> (try split at h) <;> (try split at h) <;> (try simp [Option.map_eq_some_iff] at h)
 exact ⟨_, rfl, h⟩
theorem D6 {op : Op} {x : aq} (h : cb op = some (.ew x)) : ∃ bW, op = .assign bW ∧ cr bW = some x := by
 unfold cb at h
 split at h <;> (try split at h) <;> (try split at h) <;> (try split at h) <;> (try simp [Option.map_eq_some_iff] at h)
 exact ⟨_, rfl, h⟩
theorem D7 {op : Op} {T aU : TypeId} {x y : aq} : cb op ≠ some (.jF T aU x y) := by
 intro h
 unfold cb at h
 split at h <;> (try split at h) <;> (try split at h) <;> (try split at h) <;> (try simp [Option.map_eq_some_iff] at h)
theorem D8 {op : Op} {T aU : TypeId} {x y : aq} (h : cb op = some (.app T aU x y)) : ∃ a b, op = .call ⟨.builtin .append, #[a, b], #[T, aU]⟩ ∧ cr a = some x ∧ cr b = some y := by
 cases op with
 | call c =>
   obtain ⟨callee, args, argTypes⟩ := c
   simp only [cb] at h
   split at h
   ·split at h <;> simp at h
   ·split at h <;> simp at h
   ·split at h <;> simp at h
   ·(split at h <;> try split at h) <;> simp at h
   ·(split at h <;> try split at h) <;> simp at h
   ·split at h
    ·rename_i a b uI rZ iL nj
     split at h
     ·rename_i bW gM an a8
      simp only [Option.some.injEq, dH.app.injEq] at h
      obtain ⟨rfl, rfl, rfl, rfl⟩ := h
      refine ⟨a, b, ?_, an, a8⟩
      have aE : args = #[a, b] := by apply Array.ext'; exact iL
      have aI : argTypes = #[uI, rZ] := by apply Array.ext'; exact nj
      subst aE aI
      rfl
     ·cases h
    ·cases h
   ·cases h
 | makeFunc fn first cs =>
   cases fn <;> simp only [cb] at h <;> first | (cases h; done) | (split at h <;> simp at h)
 | slice T x bY ax fv =>
   cases fv <;> simp only [cb] at h <;> first | (cases h; done) | (split at h <;> simp at h)
 | _ => simp only [cb] at h <;> first | (cases h; done) | (simp at h; done) | (split at h <;> simp at h)
theorem ba.alias {F : Nat → Prop} {S : Nat → Nat → Prop} {al : Nat → Value} {u x : Nat} (h : ba w0 F0 X F S s al w) (hu : s u = .hole) (an : (s x).own = true) (aC : br (al u) = br (al x)) (U : Value.dW (al u) = true) :
  ba w0 F0 X F (eu S u (fun _ => False)) (ca s u (.h x [])) al w := by
 have cN : ca al u (al u) = al := by funext y; simp only [ca]; split <;> simp_all
 have := h.pK (t := u) (d := .h x []) (v := al u) rfl (by
  rw [ar]
  intro d ab ak
  simp only [j.sub, Option.some.injEq] at ab
  subst ab
  exact ⟨br (al x), none, rfl, aC, ((ll an).2.2.2.2.2 _).2 U⟩)
 rwa [cN] at this
theorem hh.less {F : Nat → Prop} {S az : Nat → Nat → Prop} {al : Nat → Value} {s1 : ad} {v : Value} (aZ : ∀ u b, az u b → S u b) (aD : av.res = true) (h : hh w0 X F S s al w av v) : hh w0 X F az s1 al w av v := by
 rcases h with ⟨U, aa⟩ | ⟨U, aa, Sn, au, aK, a1, bN, bS⟩
 ·refine .inl ⟨U, ?_⟩
  cases av <;> first
   | (simp [j.res] at aD; done)
   | (rw [ar]; trivial)
   | (rw [ar] at aa ⊢; exact aa)
 ·exact .inr ⟨U, aa, Sn, au, aK, a1, fun u b J hu => bN u b J (aZ u b hu), bS⟩
theorem uJ (aM : C.c3) (h : Rel w0 F0 X n ρ s a w) {o : Oper} {f : aq} {args : List aq} (bD : cb o.op = some (.call f args)) (ab : ib n o.dst = true) {K : j → ad → Prop} {L : ad → Prop} {next : Act → World → Prop}
  (hw : r4 C s f args K) (iO : ∀ F S aY az w ao av s1 v, ba w0 F0 X F S s (fun t => a.tmps.getD t undef) w → K av s1 → av.res = true → ba w0 F0 X aY az s1 (fun t => a.tmps.getD t undef) ao → hh w0 X aY az s1 (fun t => a.tmps.getD t undef) ao av v → (∀ b, F b → aY b ∧ ao.heap[b]? = w.heap[b]?) →
   ∃ s2 cj, L (fin s2 o.dst av) ∧ ba w0 F0 X aY cj s2 (fun t => a.tmps.getD t undef) ao ∧ hh w0 X aY cj s2 (fun t => a.tmps.getD t undef) ao av v)
  (aO : ∀ aj bK ao, L aj → Rel w0 F0 X n ρ aj bK ao → next bK ao) : o.wp C.P a w next Q := by
 have lo := h
 obtain ⟨fB, cV, eR, F, S, aD⟩ := h
 obtain ⟨g, caps, ps, r, U, dV, aa, au, aK, a1, bN, bS, df⟩ := hw
 obtain ⟨dst, op, ty, pos, after, guard⟩ := o
 simp only at bD ab iO
 cases op with
 | call c =>
   obtain ⟨callee, kh, argTypes⟩ := c
   simp only [cb] at bD
   split at bD
   ·split at bD
    ·rename_i qk _ _ D9 xs bo jL
     simp only [Option.some.injEq, dH.call.injEq] at bD
     obtain ⟨rfl, rfl⟩ := bD
     obtain ⟨f1, f2⟩ := dm aD (fun _ => rfl) bo
     rw [U, ar] at f2
     obtain ⟨arr, f3, f4⟩ := f2
     have np : execOp a.eval { dst, op := .call { callee := .value qk, args := kh, argTypes }, type := ty, pos, after, guard } = callFunc g ((kh.toList.map a.eval ++ arr.toList).toArray) := by
      have : a.eval qk = .func (.func g) #[] arr := f3
      simp only [execOp, resolve, this, Deferred.ofValue, pure_bind, invoke]
      congr 1
      apply Array.ext'; simp
     unfold Oper.wp
     rw [np]
     have ql : cx w F s (fun t => a.tmps.getD t undef) (xs.map (aw s) ++ caps) (kh.toList.map a.eval ++ arr.toList) := ya (rU aD (fun _ => rfl) _ _ (ni jL)) f4
     rw [← aa] at ql
     obtain ⟨ev, l2⟩ := yb ql
     have eG : ∀ d ∈ xs.map (aw s) ++ caps, d.plain = true := by
      intro d ab
      rcases List.mem_append.1 ab with ab | ab
      ·obtain ⟨x, an, rfl⟩ := List.mem_map.1 ab
       exact wO s x fun av e => by
        subst e
        have hm := ni jL
        have : some (aq.c av) ∈ xs.map some := List.mem_map.2 ⟨_, an, rfl⟩
        rw [← hm] at this
        obtain ⟨o, _, bq⟩ := List.mem_map.1 this
        cases o with
        | const v => simp only [cr, Option.map_eq_some_iff] at bq; obtain ⟨c, ag, e⟩ := bq; cases e; exact tC ag
        | tmp n => simp [cr] at bq
        | func g => simp [cr] at bq
        | global g => simp [cr] at bq
      ·obtain ⟨k, ah⟩ := List.getElem?_of_mem ab
       exact ry dV ah
     have uK := DX (C := C) aD (ps := ps) (vs := kh.toList.map a.eval ++ arr.toList) (f := g) (r := r) (by simpa using ev)
      (fun i p v ak aC => ⟨eG p.a (by rw [← aa]; exact List.mem_map.2 ⟨p, List.mem_of_getElem? ak, rfl⟩), l2 i p.a v (by simp [ak]) aC⟩) au aK a1 bN bS
     rcases uK with ⟨et, ck⟩ | ⟨v, ao, et, aY, az, ck, hI, gk⟩
     ·rw [et, Oper.upon_enter]
      refine Calls.mono ck ?_
      rintro e ao ⟨v, rfl, aY, az, bn, bs, cT⟩
      obtain ⟨s2, cj, dY, e3, fQ⟩ := iO _ _ _ _ _ _ _ _ _ aD df bN bn bs cT
      exact aO _ _ _ dY (Rel.put fB cV eR e3 fQ ab)
     ·rw [et, Oper.upon_value]
      obtain ⟨s2, cj, dY, e3, fQ⟩ := iO _ _ _ _ _ _ _ _ _ aD df bN ck hI gk
      exact aO _ _ _ dY (Rel.put fB cV eR e3 fQ ab)
    ·cases bD
   ·split at bD
    ·simp only [Option.map_eq_some_iff] at bD; obtain ⟨_, _, bD⟩ := bD; cases bD
    ·cases bD
   ·split at bD
    ·simp only [Option.map_eq_some_iff] at bD; obtain ⟨_, _, bD⟩ := bD; cases bD
    ·cases bD
   iterate 3
    ·split at bD
     ·split at bD <;> cases bD
     ·cases bD
   ·cases bD
 | makeFunc fn first cs =>
   cases fn <;> simp only [cb] at bD <;> first | (cases bD; done) | (split at bD <;> simp at bD)
 | slice T x bY ax fv =>
   cases fv <;> simp only [cb] at bD <;> first | (cases bD; done) | (split at bD <;> simp at bD)
 | _ => simp only [cb] at bD <;> first | (cases bD; done) | (simp at bD; done) | (split at bD <;> simp at bD)
theorem D_ (aM : C.c3) (h : Rel w0 F0 X n ρ s a w) {o : Oper} {aV : dH} (bD : cb o.op = some aV) (ab : ib n o.dst = true) {K : ad → Prop} {next : Act → World → Prop}
  (hw : jN C s aV fun av s1 => K (fin s1 o.dst av)) (aO : ∀ aj bK ao, K aj → Rel w0 F0 X n ρ aj bK ao → next bK ao) : o.wp C.P a w next Q := by
 have lo := h
 obtain ⟨fB, cV, eR, F, S, aD⟩ := h
 have plain : ∀ av s1, aW C s aV = some (av, s1) → K (fin s1 o.dst av) → o.wp C.P a w next Q := by
  intro av s1 he ah
  obtain ⟨r, ao, v, aY, az, U, aa, au, aK⟩ := xG (a := a) aM aD (fun _ => rfl) bD he
  unfold Oper.wp
  rw [U]
  rcases aa with rfl | ⟨rfl, rfl⟩
  ·exact aO _ _ _ ah (Rel.put fB cV eR au aK ab)
  ·exact aO _ _ _ ah (Rel.put fB cV eR au aK ab)
 cases aV with
 | shr aV => exact (DZ bD).elim
 | jF T aU x y => exact (D7 bD).elim
 | call f args => exact uJ aM ⟨fB, cV, eR, F, S, aD⟩ bD ab (K := fun av s1 => K (fin s1 o.dst av)) hw (fun _ _ _ az _ _ _ s1 _ _ aa _ au aK _ => ⟨s1, az, aa, au, aK⟩) aO
 | iJ f args u x => exact (D0 bD).elim
 | iK f args L => exact (D1 bD).elim
 | hj T x => exact (D2 bD).elim
 | l7 x => exact (D3 bD).elim
 | lj x => exact (D4 bD).elim
 | _ =>
   obtain ⟨av, s1, he, ah⟩ := hw
   exact plain av s1 he ah
theorem hh.share {F : Nat → Prop} {S : Nat → Nat → Prop} {al : Nat → Value} {v : Value} (h : ba w0 F0 X F S s al w) (aC : hh w0 X F S s al w av v) (aG : av.tree = true) (aO : ∀ vs, av ≠ .tuple vs) :
  ∃ aY, ba w0 F0 X aY S s al w ∧ hh w0 X aY S s al w av.share v := by
 obtain ⟨Sn, fp, eN, gz, fZ, lY, nq⟩ : ∃ Sn : Nat → Prop, cA av v ∧ ai w F av (br v) Sn ∧ (∀ b, Sn b → b < w.heap.size) ∧ (∀ b, Sn b → ¬ F b) ∧ (∀ u b, Sn b → ¬ S u b) ∧ (∀ b, Sn b → X b ∨ w0.heap.size ≤ b) := by
  rcases aC with ⟨U, aa⟩ | ⟨_, aa, Sn, au, aK, a1, bN, bS⟩
  ·rw [ar.bE aG] at aa
   exact ⟨fun _ => False, aa.1, aa.2, fun _ h => h.elim, fun _ h => h.elim, fun _ _ h => h.elim, fun _ h => h.elim⟩
  ·exact ⟨Sn, aa, au, aK, a1, bN, bS⟩
 refine ⟨fun b => F b ∨ Sn b, ?_, .inl ⟨ux av, ?_⟩⟩
 ·exact {
   eF := fun b J => .inl (h.eF b J)
   eW := fun b J => by
    rcases J with J | J
    ·exact h.eW b J
    ·exact .inr (nq b J)
   dg := fun b J => J.elim (h.dg b) (gz b)
   cZ := h.cZ
   dz := fun t b J bo => bo.elim (h.dz t b J) (fun R => lY t b R J)
   dt := h.dt
   cq := h.cq
   cl := fun t => ar.frame (fun _ _ => rfl) (fun b J => .inl J) (fun _ _ _ => rfl) h.cl _ _ _ (fun _ _ => rfl) (h.cl t)
   old := h.old
   size := h.size
   os := h.os
   tape := h.tape
   output := h.output }
 ·by_cases bq : ∃ o, av = .ch o
  ·obtain ⟨o, rfl⟩ := bq
   rw [j.share, ar]; trivial
  have Ea : av.share.tree = true := by cases av <;> first | exact aG | rfl | exact (bq ⟨_, rfl⟩).elim
  rw [ar.bE Ea]
  exact ⟨uz aO fp, ai.shared (fun b J => .inl J) av _ Sn (fun b J => .inr J) eN⟩
theorem Eb {op : Op} {T : TypeId} {x : aq} (h : cb op = some (.du T x)) : ∃ a, op = .box T a ∧ cr a = some x := by
 cases op with
 | box uI a =>
   simp only [cb, Option.map_eq_some_iff, dH.du.injEq] at h
   obtain ⟨y, a8, rfl, rfl⟩ := h
   exact ⟨a, rfl, a8⟩
 | _ =>
   exfalso
   unfold cb at h
   split at h <;> (try split at h) <;> (try split at h) <;> (try split at h) <;> (try simp [Option.map_eq_some_iff] at h) <;> contradiction
theorem Ec {ao : World} {F aY : Nat → Prop} {s s1 : ad} {al : Nat → Value} (aN : ∀ b, F b → aY b ∧ ao.heap[b]? = w.heap[b]?) : ∀ (n : Nat),
  (∀ (d : j) (v : Value) (S : Nat → Prop), SizeOf.sizeOf d ≤ n → d.eJ s = true → d.eJ s1 = true → ar w F s al d v S → ar ao aY s1 al d v (fun _ => False)) ∧
  (∀ (ds : List j) (vs : List Value), SizeOf.sizeOf ds ≤ n → j.me s ds = true → j.me s1 ds = true → cx w F s al ds vs → cx ao aY s1 al ds vs) := by
 intro n
 induction n with
 | zero =>
   refine ⟨fun d v S bd => ?_, fun ds vs bd => ?_⟩
   ·cases d <;> simp at bd <;> omega
   ·cases ds <;> simp at bd <;> omega
 | succ n ih =>
   refine ⟨fun d v S bd bn bs h => ?_, fun ds vs bd bn bs h => ?_⟩
   ·cases d with
    | hole => rw [ar]; trivial
    | h x q =>
      simp only [j.eJ, Bool.and_eq_true, List.isEmpty_iff] at bn bs
      obtain ⟨rfl, bn⟩ := bn
      rw [ar] at h ⊢
      obtain ⟨bQ, a, dF, er, e_⟩ := h (s x) (by simp only [j.sub]) (ll bn).1
      simp only [b2, Option.some.injEq, Prod.mk.injEq, true_and] at dF
      intro d ab _
      simp only [j.sub, Option.some.injEq] at ab
      subst ab
      exact ⟨br (al x), none, by simp only [b2], by rw [er, ← dF.1], ((ll bs.2).2.2.2.2.2 _).2 (((ll bn).2.2.2.2.2 _).1 e_)⟩
    | ak x q => simp [j.eJ] at bn
    | J x k =>
      simp only [j.eJ, Bool.not_eq_true'] at bn
      rw [ar] at h ⊢
      obtain ⟨b, cur, e, fr, U, aa, au, aK⟩ := h bn
      exact fun _ => ⟨b, cur, e, fr, U, (aN b aa).1, (aN b aa).2.trans au, aK⟩
    | fn f cap =>
      simp only [j.eJ] at bn bs
      rw [ar] at h ⊢
      obtain ⟨arr, rfl, ag⟩ := h
      exact ⟨arr, rfl, ih.2 _ _ (by simp at bd; omega) bn bs ag⟩
    | _ =>
      simp only [j.eJ] at bn
      have aX := (ar.bE rfl).1 h
      exact (ar.bE rfl).2 ⟨aX.1, ai.mono (fun b J => (aN b J).1) _ _ _ _ (fun _ h => h) (ai.frame (fun b J => (aN b J).2) _ _ _ (fun _ h => h.elim) (ai.plain _ _ _ _ bn aX.2))⟩
   ·cases ds with
    | nil => rw [cx] at h ⊢; exact h
    | cons d ds =>
      simp only [j.me, Bool.and_eq_true] at bn bs
      rw [cx] at h ⊢
      obtain ⟨v, fW, rfl, U, aa⟩ := h
      simp at bd
      exact ⟨v, fW, rfl, ih.1 _ _ _ (by omega) bn.1 bs.1 U, ih.2 _ _ (by omega) bn.2 bs.2 aa⟩
theorem Ed {s : ad} {d : j} (h : d.eJ s = true) : d.plain = true := by
 cases d <;> first | rfl | (simpa [j.eJ] using h)
theorem ba.ln {F : Nat → Prop} {al : Nat → Value} : ∀ (L : List (Nat × j)) (s : ad) (S : Nat → Nat → Prop), ba w0 F0 X F S s al w → (∀ p ∈ L, p.2.plain = true ∧ ar w F s al p.2 (al p.1) (fun _ => False)) →
  ∃ az, ba w0 F0 X F az (b7.ln s L) al w ∧ ∀ u b, az u b → S u b := by
 intro L
 induction L with
 | nil => intro s S h _; exact ⟨S, h, fun _ _ h => h⟩
 | cons p L ih =>
   intro s S h iO
   obtain ⟨U, aa⟩ := iO p (by simp)
   have cN : ca al p.1 (al p.1) = al := by funext u; simp only [ca]; split <;> simp_all
   have au := h.pK (t := p.1) U aa
   rw [cN] at au
   have ej : ∀ x, x ≠ p.1 → (ca s p.1 p.2 x).tree = true → ca s p.1 p.2 x = s x ∧ al x = al x := fun x an _ => ⟨gw _ _ an, rfl⟩
   obtain ⟨az, g1, g2⟩ := ih _ _ au (fun q bR => ⟨(iO q (by simp [bR])).1, (ar.void (t := p.1) ej (by rw [jt]; exact U) _).1 _ _ _ (Nat.le_refl _) (iO q (by simp [bR])).2⟩)
   refine ⟨az, g1, fun u b J => ?_⟩
   have := g2 u b J
   simp only [eu] at this
   split at this
   ·exact this.elim
   ·exact this
theorem uL {s : ad} : ∀ {L : List (Nat × j)}, kQ s L = true → ∀ p ∈ L, p.2.eJ s = true
 | q :: L, U, p, ak => by
   simp only [kQ, Bool.and_eq_true] at U
   rcases List.mem_cons.1 ak with rfl | ak
   ·exact U.1
   ·exact uL U.2 p ak
theorem Ee {s : ad} {us : List Nat} {p : Nat × j} (h : p ∈ ic s us) : p.1 ∈ us ∧ s p.1 = p.2 := by
 obtain ⟨u, hu, rfl⟩ := List.mem_map.1 h
 exact ⟨hu, rfl⟩
theorem Ef (aM : C.c3) (h : Rel w0 F0 X n ρ s a w) {o : Oper} {aV : dH} (bD : mc o.op = aV.base) (ab : ib n o.dst = true) {K : ad → Prop} {next : Act → World → Prop}
  (hw : jN C s aV fun av s1 => K (fin s1 o.dst av)) (aO : ∀ aj bK ao, K aj → Rel w0 F0 X n ρ aj bK ao → next bK ao) : o.wp C.P a w next Q := by
 cases aV with
 | shr aV =>
   obtain ⟨av, s1, he, aG, iM, ah⟩ := hw
   rcases kR bD with bD | bD
   ·change aV = .bad at bD
    subst bD; cases he
   obtain ⟨fB, cV, eR, F, S, aD⟩ := h
   obtain ⟨r, ao, v, aY, az, U, aa, au, aK⟩ := xG (a := a) aM aD (fun _ => rfl) bD he
   obtain ⟨qi, g3, g4⟩ := hh.share au aK aG iM
   unfold Oper.wp
   rw [U]
   rcases aa with rfl | ⟨rfl, rfl⟩
   ·exact aO _ _ _ ah (Rel.put fB cV eR g3 g4 ab)
   ·exact aO _ _ _ ah (Rel.put fB cV eR g3 g4 ab)
 | bad => obtain ⟨av, s1, he, _⟩ := hw; cases he
 | iJ f args u x =>
   obtain ⟨aE, aI, hw⟩ := hw
   rcases kR bD with J | J
   ·cases J
   ·refine uJ aM h J ab hw ?_ aO
    rintro F S aY az w ao av s1 v fp ⟨eN, gz, fZ⟩ lY nq qm _
    have rE := fp.cl u
    rw [aE, ar] at rE
    obtain ⟨bQ, a0, dF, er, e_⟩ := rE (s x) (by simp only [j.sub]) (ll aI).1
    simp only [b2, Option.some.injEq, Prod.mk.injEq, true_and] at dF
    have Eg : ∀ y b, eu az u (fun _ => False) y b → az y b := by
     intro y b J
     simp only [eu] at J
     split at J
     ·exact J.elim
     ·exact J
    exact ⟨_, _, fZ, nq.alias eN gz (by rw [er, ← dF.1]) (((ll aI).2.2.2.2.2 _).1 e_), qm.less Eg lY⟩
 | iK f args L =>
   obtain ⟨aI, hw⟩ := hw
   rcases kR bD with J | J
   ·cases J
   ·refine uJ aM h J ab hw ?_ aO
    rintro F S aY az w ao av s1 v fp ⟨eN, fZ⟩ lY nq qm Eh
    obtain ⟨cj, g1, g2⟩ := nq.ln (ic s L) s1 az (fun p ak => by
     have et := (Ee ak).2
     have ck := uL aI p ak
     have hI := uL eN p ak
     refine ⟨Ed ck, (Ec Eh _).1 _ _ (S p.1) (Nat.le_refl _) ck hI ?_⟩
     have := fp.cl p.1
     rw [et] at this
     exact this)
    exact ⟨_, cj, fZ, g1, qm.less g2 lY⟩
 | hj T x =>
   obtain ⟨av, s1, he, ah⟩ := hw
   rcases kR bD with J | J
   ·cases J
   ·obtain ⟨bW, ki, an⟩ := Eb J
    obtain ⟨fB, cV, eR, F, S, aD⟩ := h
    obtain ⟨dst, op, ty, pos, after, guard⟩ := o
    simp only at ki ab ah
    subst ki
    obtain ⟨r, ao, v, aY, az, U, aa, au, aK⟩ : Next C w0 F0 X (fun t => a.tmps.getD t undef) w (execOp a.eval ⟨dst, .box T bW, ty, pos, after, guard⟩) av s1 := (Cc (T := T) aD (dm aD (fun _ => rfl) an).2 he).next
    unfold Oper.wp
    rw [U]
    rcases aa with rfl | ⟨rfl, rfl⟩
    ·exact aO _ _ _ ah (Rel.put fB cV eR au aK ab)
    ·exact aO _ _ _ ah (Rel.put fB cV eR au aK ab)
 | lj x =>
   obtain ⟨av, s1, he, ah⟩ := hw
   rcases kR bD with J | J
   ·cases J
   ·obtain ⟨bW, ki, an⟩ := D5 J
    obtain ⟨fB, cV, eR, F, S, aD⟩ := h
    obtain ⟨dst, op, ty, pos, after, guard⟩ := o
    simp only at ki ab ah
    subst ki
    simp only [aW] at he
    obtain ⟨g1, g2⟩ := dm aD (fun _ => rfl) an
    obtain ⟨r, ao, v, aY, az, U, aa, au, aK⟩ : Next C w0 F0 X (fun t => a.tmps.getD t undef) w (execOp a.eval ⟨dst, .move bW, ty, pos, after, guard⟩) av s1 := by
     unfold kL at he
     split at he
     ·rename_i y q a8
      rw [a8] at g1 g2
      obtain ⟨bf, k0, bn, bs, Sn, cT, cm, c8, c4, fq, _⟩ := kB aD g1 g2 he
      exact ⟨_, w, _, F, bf, rfl, .inl rfl, k0, .inr ⟨bn, bs, Sn, cT, cm, c8, c4, fq⟩⟩
     ·simp only [Option.some.injEq, Prod.mk.injEq] at he
      obtain ⟨rfl, rfl⟩ := he
      exact ⟨_, w, _, F, S, rfl, .inl rfl, aD, .inl ⟨g1, g2⟩⟩
    unfold Oper.wp
    rw [U]
    rcases aa with rfl | ⟨rfl, rfl⟩
    ·exact aO _ _ _ ah (Rel.put fB cV eR au aK ab)
    ·exact aO _ _ _ ah (Rel.put fB cV eR au aK ab)
 | l7 x =>
   obtain ⟨av, s1, he, ah⟩ := hw
   rcases kR bD with J | J
   ·cases J
   ·obtain ⟨bW, ki, an⟩ := D6 J
    obtain ⟨fB, cV, eR, F, S, aD⟩ := h
    obtain ⟨dst, op, ty, pos, after, guard⟩ := o
    simp only at ki ab ah
    subst ki
    simp only [aW, Option.some.injEq, Prod.mk.injEq] at he
    obtain ⟨rfl, rfl⟩ := he
    obtain ⟨g1, g2⟩ := dm aD (fun _ => rfl) an
    obtain ⟨r, ao, v, aY, az, U, aa, au, aK⟩ : Next C w0 F0 X (fun t => a.tmps.getD t undef) w (execOp a.eval ⟨dst, .assign bW, ty, pos, after, guard⟩) (aw s x) s := ⟨_, w, _, F, S, rfl, .inl rfl, aD, .inl ⟨g1, g2⟩⟩
    unfold Oper.wp
    rw [U]
    rcases aa with rfl | ⟨rfl, rfl⟩
    ·exact aO _ _ _ ah (Rel.put fB cV eR au aK ab)
    ·exact aO _ _ _ ah (Rel.put fB cV eR au aK ab)
 | jF T aU x y =>
   obtain ⟨av, s1, he, ah⟩ := hw
   rcases kR bD with J | J
   ·cases J
   ·obtain ⟨bW, gM, ki, an, a8⟩ := D8 J
    obtain ⟨fB, cV, eR, F, S, aD⟩ := h
    simp only [aW, Option.map_eq_some_iff, Prod.mk.injEq] at he
    obtain ⟨d, ep, rfl, rfl⟩ := he
    obtain ⟨v, ao, aY, az, U, aa, au⟩ := CY (ty := o.type) aM aD (dm aD (fun _ => rfl) an).2 (dm aD (fun _ => rfl) a8).2 ep
    have np : execOp a.eval o = (do pure (.value (← Builtin.append_ #[T, aU] o.type #[a.eval bW, a.eval gM]))) := by
     obtain ⟨dst, op, ty, pos, after, guard⟩ := o
     simp only at ki
     subst ki
     simp [execOp, resolve, invoke, builtin]
    unfold Oper.wp
    rw [np]
    simp only [Sem.run_bind, U, Result.andThen]
    exact aO _ _ _ ah (Rel.put fB cV eR aa au ab)
 | _ =>
   rcases kR bD with J | J
   ·cases J
   ·exact D_ aM h J ab hw aO
end
end Go.b7
