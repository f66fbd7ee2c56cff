/- Part of a proof that a law returns true for every input. No condition. -/
import Derived.Test.YtjedocbdhlppdaaFwD
import Derived.Laws.Tables
namespace Go.b1
section
variable {C : bl} {w0 w : World} {F0 X F : Nat → Prop} {S : Nat → Nat → Prop} {s s1 : ae} {ak : Nat → Value} {av : j}
theorem q5 (z : List Value) : ∀ n, (List.range (n * z.length)).map (fun i => z[i % z.length]!) = (List.replicate n z).flatten
 | 0 => by simp
 | n + 1 => by
   rw [Nat.add_mul, Nat.one_mul, List.range_add, List.map_append, q5 z n, List.replicate_succ', List.flatten_append]
   congr 1
   simp only [List.map_map, List.flatten_cons, List.flatten_nil, List.append_nil]
   apply List.ext_getElem
   ·simp
   ·intro i U aa
    have ax : i < z.length := aa
    simp [Nat.mod_eq_of_lt ax, ax]
theorem aD.replicate {d : j} {cs : List Value} (h : ∀ az, ag w F d cs az) : ∀ n az, aD w F (List.replicate n d) (List.replicate n cs).flatten az
 | 0, az => by simp only [List.replicate_zero, List.flatten_nil]; rw [aD]
 | n + 1, az => by
   rw [List.replicate_succ, List.replicate_succ, List.flatten_cons, aD]
   exact ⟨cs, _, fun _ => False, fun _ => False, rfl, h _, aD.replicate h n _, fun _ h => h.elim, fun _ h => h.elim, fun _ h => h.elim⟩
def en (C : bl) (T : TypeId) (l c : j) : Option j :=
 match (C.T T).k, l, c with
 | .slice e, .int .i64 n, .int .i64 m => if n = m ∧ 0 ≤ n ∧ (C.T e).ok = true ∧ (C.T e).zero.wd = (C.T e).sz ∧ (flat (C.T e).zero).isSome = true ∧ (C.T e).sz ≠ 0 ∧ (C.T e).bytes * n ≤ 140737488355328 ∧ n ≤ 9223372036854775807 then
   some (.aP (C.T e).sz (List.replicate n.toNat (C.T e).zero)) else none
 | _, _, _ => none
theorem BK (aJ : C.cP) (h : aZ w0 F0 X F S s ak w) {T : TypeId} {l c : j} {wG wH : Value} (aI : ar w F s ak l wG (fun _ => False)) (af : ar w F s ak c wH (fun _ => False)) (he : en C T l c = some av) :
  Good C w0 F0 X ak w (Instr.makeSlice T wG wH) av s := by
 unfold en at he
 split at he
 ·rename_i e n m ai
  have := kA aI; subst this
  have := kA af; subst this
  obtain ⟨tc, d, td, aC, aF, a6, bQ, bT, bc, a8⟩ := aJ.info (dr ai (by simp))
  rw [ai] at a8
  have := gP a8; subst this
  split at he
  ·rename_i me
   obtain ⟨rfl, aL, jt, j3, kI, cB, lp, tf⟩ := me
   simp only [Option.some.injEq] at he; subst he
   obtain ⟨i, te, z, f1, f2, f3, f4, f5, f6, f7⟩ := aJ.info jt
   obtain ⟨cQ, hU⟩ := Option.isSome_iff_exists.1 kI
   have kJ := f5 cQ hU
   have el : ∀ az, ag w F (C.T e).zero cQ az := fun az => (ag.flat _).1 _ cQ az (Nat.le_refl _) hU
   have jv : cQ.length = (C.T e).sz := by rw [ag.length _ _ _ (el (fun _ => False)), j3]
   obtain ⟨n, rfl⟩ := Int.eq_ofNat_of_zero_le aL
   simp only [Int.toNat_natCast]
   have nw : IntKind.i64.wrap (n : Int) = n := by
    rw [IntKind.wrap_i64]; omega
   have nu : ∀ k (w : World), (askRoom k).run C.P w = .ok () w := by
    intro k w
    unfold askRoom
    split <;> rfl
   have jr : ((Array.range (n * (C.T e).sz)).map (cQ.toArray[· % cQ.toArray.size]!)).toList = (List.replicate n cQ).flatten := by
    have := q5 cQ n
    rw [jv] at this
    simpa [jv] using this
   have cx : ¬ (281474976710656 < (i.bytes : Int) * n) := by
    rw [f3]; omega
   have q6 : ¬ ((n : Int) < 0) := by omega
   have run : (Instr.makeSlice T (.int .i64 n) (.int .i64 n)).run C.P w = .ok (.slice (some ⟨w.heap.size, 0, none⟩) n n)
     (w.alloc (.cells (if n * (C.T e).sz = 0 then (Array.range (n * (C.T e).sz)).map (fun _ => default) else (Array.range (n * (C.T e).sz)).map (cQ.toArray[· % cQ.toArray.size]!)) e)) := by
    by_cases bk : n * (C.T e).sz = 0
    ·simp [Instr.makeSlice, run_underlying bc, asInt, asIntOf, l_ f1, nw, cx, q6, nu, gg f1, f2, bk, newRow]
    ·simp only [bk, if_false]
     simp [Instr.makeSlice, run_underlying bc, asInt, asIntOf, l_ f1, nw, cx, q6, nu, gg f1, f2, bk, newRow, nj f1 f4, kJ]
   have gL : (if n * (C.T e).sz = 0 then (Array.range (n * (C.T e).sz)).map (fun _ => (default : Value)) else (Array.range (n * (C.T e).sz)).map (cQ.toArray[· % cQ.toArray.size]!)).toList = (List.replicate n cQ).flatten := by
    split
    ·rename_i bk
     have : n = 0 := by
      rcases Nat.mul_eq_zero.1 bk with h | h
      ·exact h
      ·exact (cB h).elim
     subst this
     simp
    ·exact jr
   generalize mu : (if n * (C.T e).sz = 0 then (Array.range (n * (C.T e).sz)).map (fun _ => (default : Value)) else (Array.range (n * (C.T e).sz)).map (cQ.toArray[· % cQ.toArray.size]!)) = cur at run gL
   have fo : (List.replicate n cQ).flatten.length = n * (C.T e).sz := by simp [jv]
   have fp : cur.size = n * (C.T e).sz := by
    have : cur.size = cur.toList.length := by simp
    rw [this, gL, fo]
   have gz := h.pr (an := w.alloc (.cells cur e)) (sz := (C.T e).sz) (cap := n) (xs := List.replicate n (C.T e).zero) (cur := cur) (e := e) (fr := (0, 0)) (Sn := fun _ => False) rfl rfl rfl rfl
    (fun o _ ⟨_, aa⟩ => absurd aa (Nat.not_lt_zero _)) (by simp) (by unfold maxLen; omega) fp (by intro d ab; rw [List.eq_of_mem_replicate ab]; exact j3)
    (by rw [gL, List.length_replicate, List.take_of_length_le (by rw [fo]; exact Nat.le_refl _)]; exact aD.replicate el n _) (fun _ h => h.elim) (fun _ h => h.elim) (fun _ _ h => h.elim) (fun _ h => h.elim)
   rw [List.length_replicate] at gz
   exact ⟨_, _, F, S, run, gz.1, gz.2⟩
  ·cases he
 ·cases he
def iS (C : bl) (T aV : TypeId) (x y : j) : Option j :=
 match (C.T T).k, (C.T aV).k, x, y with
 | .slice e, .int _, .bB, .int .i64 n => if 0 ≤ n ∧ (C.T e).ok = true ∧ (C.T e).zero.wd = (C.T e).sz ∧ (flat (C.T e).zero).isSome = true ∧ (C.T e).sz ≠ 0 ∧ (C.T e).bytes * n ≤ 140737488355328 ∧ n ≤ 9223372036854775807 then
   some (.aP (C.T e).sz (List.replicate n.toNat (C.T e).zero)) else none
 | _, _, _, _ => none
theorem BL {P : Program} {T aV ty e : TypeId} {k : IntKind} {i : TypeInfo} {z : Value} (aG : P.underlying T = some (.slice e)) (hu : P.underlying aV = some (.int k)) (ax : P.info? e = some i) (a1 : i.zero = some z)
  (n : Nat) (bk : n ≠ 0) (R : i.size ≠ 0) (aL : n ≤ 9223372036854775807) (J : n * i.bytes ≤ 140737488355328) :
  (Builtin.append_ #[T, aV] ty #[.slice none 0 0, .int .i64 n]).run P w = .ok (.slice (some ⟨w.heap.size, 0, none⟩) n (grownCap w n 0 e))
   (w.drew.alloc (.cells (Builtin.zeroCells z.cells n ++ Builtin.zeroCells z.cells (grownCap w n 0 e - n)) e)) := by
 have nw : IntKind.i64.wrap (n : Int) = n := by rw [IntKind.wrap_i64]; omega
 have q6 : ¬ ((n : Int) < 0) := by omega
 have hmul : (n : Int) * (i.bytes : Int) = ((n * i.bytes : Nat) : Int) := by simp
 have cx : ¬ (281474976710656 < (n : Int) * (i.bytes : Int)) := by rw [hmul]; omega
 have eH : ¬ (281474976710656 < Builtin.nextslicecap n 0 * i.bytes) := by
  have : Builtin.nextslicecap n 0 = n := by unfold Builtin.nextslicecap; rw [if_pos (by omega)]
  rw [this]; omega
 have nu : ∀ k (w : World), (askRoom k).run P w = .ok () w := by
  intro k w
  unfold askRoom
  split <;> rfl
 have s9 : ¬ (9223372036854775807 < (n : Int)) := by omega
 have th : n * i.size ≠ 0 := Nat.mul_ne_zero bk R
 simp [Builtin.append_, run_underlying aG, run_underlying hu, gg ax, l_ ax, asInt, asIntOf, nw, q6, cx, eH, bk, Question.forced, nu, s9, nj ax a1, newRow, grownCap, Builtin.firstCells]
 intro hc; exact (th hc).elim
theorem BM (aJ : C.cP) (h : aZ w0 F0 X F S s ak w) {T aV ty : TypeId} {x y : j} {fq e1 : Value} (aj : ar w F s ak x fq (fun _ => False)) (aY : ar w F s ak y e1 (fun _ => False)) (he : iS C T aV x y = some av) :
  Good C w0 F0 X ak w (Builtin.append_ #[T, aV] ty #[fq, e1]) av s := by
 unfold iS at he
 split at he
 ·rename_i e LA n ai wI
  have := kB aj; subst this
  have := kA aY; subst this
  obtain ⟨tc, d, td, aC, aF, a6, bQ, bT, bc, a8⟩ := aJ.info (dr ai (by simp))
  rw [ai] at a8
  have := gP a8; subst this
  obtain ⟨LB, LC, LD, wJ, wK, wL, BN, wM, wN, nx⟩ := aJ.info (dr wI (by simp))
  rw [wI] at nx
  have := pc nx; subst this
  split at he
  ·rename_i me
   obtain ⟨aL, jt, j3, kI, cB, lp, tf⟩ := me
   simp only [Option.some.injEq] at he; subst he
   obtain ⟨i, te, z, f1, f2, f3, f4, f5, f6, f7⟩ := aJ.info jt
   obtain ⟨cQ, hU⟩ := Option.isSome_iff_exists.1 kI
   have kJ := f5 cQ hU
   have el : ∀ az, ag w F (C.T e).zero cQ az := fun az => (ag.flat _).1 _ cQ az (Nat.le_refl _) hU
   have jv : cQ.length = (C.T e).sz := by rw [ag.length _ _ _ (el (fun _ => False)), j3]
   obtain ⟨n, rfl⟩ := Int.eq_ofNat_of_zero_le aL
   simp only [Int.toNat_natCast]
   by_cases bk : n = 0
   ·subst bk
    have run : (Builtin.append_ #[T, aV] ty #[.slice none 0 0, .int .i64 ((0 : Nat) : Int)]).run C.P w = .ok (.slice none 0 0) w := by
     have nw : IntKind.i64.wrap 0 = 0 := by decide
     simp [Builtin.append_, run_underlying bc, run_underlying wN, gg f1, l_ f1, asInt, asIntOf, nw]
    exact ⟨_, w, F, S, run, h, .inr ⟨rfl, rfl, fun _ => False, by simp only [bj, eS]; rw [ag]; exact .inl ⟨rfl, _, rfl⟩, fun _ h => h.elim, fun _ h => h.elim, fun _ _ h => h.elim, fun _ h => h.elim⟩⟩
   ·have run := BL (w := w) (ty := ty) bc wN f1 f4 n bk (by rw [f2]; exact cB) (by omega) (by
     rw [f3]
     have : ((C.T e).bytes : Int) * (n : Int) = (((C.T e).bytes * n : Nat) : Int) := by simp
     rw [this] at lp
     rw [Nat.mul_comm]; omega)
    rw [kJ] at run
    have pw := grownCap_ge w n 0 e
    have kG := grownCap_le_maxLen w n 0 e (by unfold maxLen; omega)
    have wO : ∀ m, (Builtin.zeroCells cQ.toArray m).toList = (List.replicate m cQ).flatten := by
     intro m
     have := q5 cQ m
     unfold Builtin.zeroCells
     simpa [jv] using this
    have fo : ∀ m, (List.replicate m cQ).flatten.length = m * (C.T e).sz := by intro m; simp [jv]
    generalize mu : Builtin.zeroCells cQ.toArray n ++ Builtin.zeroCells cQ.toArray (grownCap w n 0 e - n) = cur at run
    have gL : cur.toList = (List.replicate n cQ).flatten ++ (List.replicate (grownCap w n 0 e - n) cQ).flatten := by rw [← mu, Array.toList_append, wO, wO]
    have fp : cur.size = grownCap w n 0 e * (C.T e).sz := by
     have : cur.size = cur.toList.length := by simp
     rw [this, gL, List.length_append, fo, fo, ← Nat.add_mul]
     congr 1; omega
    have gz := h.pr (an := w.drew.alloc (.cells cur e)) (sz := (C.T e).sz) (cap := grownCap w n 0 e) (xs := List.replicate n (C.T e).zero) (cur := cur) (e := e) (fr := (0, 0)) (Sn := fun _ => False) rfl rfl rfl rfl
     (fun o _ ⟨_, aa⟩ => absurd aa (Nat.not_lt_zero _)) (by simpa using pw) kG fp (by intro d ab; rw [List.eq_of_mem_replicate ab]; exact j3)
     (by rw [gL, List.length_replicate, List.take_left' (fo n)]; exact aD.replicate el n _) (fun _ h => h.elim) (fun _ h => h.elim) (fun _ _ h => h.elim) (fun _ h => h.elim)
    rw [List.length_replicate] at gz
    exact ⟨_, _, F, S, run, gz.1, gz.2⟩
  ·cases he
 ·cases he
def gp (s : ae) (f : FuncId) (cs : List aq) : Option j := some (.fn f (cs.map (au s)))
theorem q7 {a : Act} (h : aZ w0 F0 X F S s ak w) (cC : ∀ t, ak t = a.tmps.getD t undef) : ∀ (os : List Operand) (xs : List aq), os.map cg = xs.map some → ck w F s ak (xs.map (au s)) (os.map a.eval)
 | [], [], _ => by simp only [List.map_nil]; rw [ck]
 | [], x :: xs, h => by simp at h
 | o :: os, [], h => by simp at h
 | o :: os, x :: xs, aS => by
   simp only [List.map_cons, List.cons.injEq] at aS ⊢
   rw [ck]
   exact ⟨_, _, rfl, (c_ h cC aS.1).2, q7 h cC os xs aS.2⟩
theorem wP : ∀ (vs : List Value) (k off : Nat) (A : Array Value) (l m r : List Value), A.toList = l ++ (m ++ r) → l.length = off + k → m.length = vs.length →
  ((vs.zipIdx k).foldl (fun cs (x : Value × Nat) => cs.setIfInBounds (off + x.2) x.1) A).toList = l ++ (vs ++ r)
 | [], k, off, A, l, m, r, fb, aI, hm => by
   have : m = [] := by simpa using hm
   subst this
   simpa using fb
 | v :: vs, k, off, A, l, m, r, fb, aI, hm => by
   obtain ⟨x, m, rfl⟩ : ∃ x fR, m = x :: fR := by
    cases m with
    | nil => simp at hm
    | cons x m => exact ⟨x, m, rfl⟩
   rw [List.zipIdx_cons, List.foldl_cons]
   have := wP vs (k + 1) off (A.setIfInBounds (off + k) v) (l ++ [v]) m r (by
    rw [Array.toList_setIfInBounds, fb, ← aI, List.set_append_right _ _ (Nat.le_refl _)]
    simp) (by simp; omega) (by simpa using hm)
   simpa using this
def iT (os : List (Option Nat)) (a : j) : j := os.foldl (fun a o => ia o a) a
def iU (place : Nat → Option (Nat × Nat)) : ae → List j → List (Option Nat) → List (Nat × j) → Option (List j × ae)
 | s, dO, _, [] => some (dO, s)
 | s, dO, os, (k, a) :: r => match bE s (iT os a), place k, dO[k]? with
   | some (d, s1), some (off, n), some z => match d with
     | .tuple _ => none
     | d => if d.wd = n ∧ z.wd = n ∧ j.cn (dO.take k) = off then iU place s1 (dO.set k d) (os ++ [(iT os a).owner]) r else none
   | _, _, _ => none
def iV (w : World) (F : Nat → Prop) (s : ae) (ak : Nat → Value) : List (Nat × j) → List (Nat × Value) → Prop
 | [], [] => True
 | (k, a) :: r, (ct, v) :: gi => k = ct ∧ a.plain = true ∧ ar w F s ak a v (fun _ => False) ∧ iV w F s ak r gi
 | _, _ => False
theorem BO (x : Nat) : ∀ d : j, d.plain = true → (bd x d).plain = true
 | .h y q, _ => by simp only [bd]; split <;> (try split) <;> rfl
 | .al y q, _ => by simp only [bd]; split <;> rfl
 | .J y q, _ => rfl
 | .fn f c, _ => by simp only [bd]; rfl
 | .hole, h => h
 | .bool _, h => h
 | .cO, h => h
 | .int _ _, h => h
 | .str _, h => h
 | .b7, h => h
 | .bB, h => h
 | .slice _, h => h
 | .aP _ _, h => h
 | .ref _, h => h
 | .bn _, h => h
 | .agg _, h => h
 | .tuple _, h => h
theorem BP (o : Option Nat) (d : j) (h : d.plain = true) : (ia o d).plain = true := by
 cases o with
 | none => exact h
 | some x => exact BO x d h
theorem iV.bd {w : World} {F : Nat → Prop} {s s1 : ae} {ak : Nat → Value} {o : Option Nat} (al : ∀ (aO : j) (b6 : Value) (az : Nat → Prop), ar w F s ak aO b6 az → ar w F s1 ak (ia o aO) b6 az) :
  ∀ (r : List (Nat × j)) (gi : List (Nat × Value)), iV w F s ak r gi → iV w F s1 ak (r.map fun p => (p.1, ia o p.2)) gi
 | [], [], _ => trivial
 | (k, a) :: r, (ct, v) :: gi, h => by
   obtain ⟨U, aa, aw, aH⟩ := h
   exact ⟨U, BP _ _ aa, al _ _ _ aw, iV.bd al r gi aH⟩
 | [], _ :: _, h => h.elim
 | _ :: _, [], h => h.elim
theorem ti {place : Nat → Option (Nat × Nat)} : ∀ (ps : List (Nat × j)) (vs : List (Nat × Value)) (os : List (Option Nat)) (s : ae) (S : Nat → Nat → Prop) (dO : List j) (A : Array Value) (et : Nat → Prop),
  aZ w0 F0 X F S s ak w → iV w F s ak (ps.map fun p => (p.1, iT os p.2)) vs → aD w F dO A.toList et → (∀ b, et b → b < w.heap.size) → (∀ b, et b → ¬ F b) → (∀ u b, et b → ¬ S u b) → (∀ b, et b → X b ∨ w0.heap.size ≤ b) →
  ∀ ds s1, iU place s dO os ps = some (ds, s1) → ∃ hD a_ dG, Instr.fill place A vs = some hD ∧ aZ w0 F0 X F a_ s1 ak w ∧ aD w F ds hD.toList dG ∧ (∀ b, dG b → b < w.heap.size) ∧ (∀ b, dG b → ¬ F b) ∧ (∀ u b, dG b → ¬ a_ u b) ∧
    (∀ b, dG b → X b ∨ w0.heap.size ≤ b) ∧ ds.length = dO.length ∧ j.cn ds = j.cn dO ∧ (∀ n, (∀ d ∈ dO, d.wd = n) → ∀ d ∈ ds, d.wd = n)
 | [], [], os, s, S, dO, A, et, h, _, U, aa, aw, aH, aX, ds, s1, he => by
   simp only [iU, Option.some.injEq, Prod.mk.injEq] at he
   obtain ⟨rfl, rfl⟩ := he
   exact ⟨A, S, et, rfl, h, U, aa, aw, aH, aX, rfl, rfl, fun _ h => h⟩
 | (k, a) :: ps, (ct, v) :: vs, os, s, S, dO, A, et, h, al, U, aa, aw, aH, aX, ds, s1, he => by
   obtain ⟨rfl, gB, jl, pA⟩ := al
   simp only [iU] at he
   split at he
   ·rename_i d pB off n z aG ej a1
    have key : ∀ d : j, (∀ ad, d ≠ .tuple ad) → bE s (iT os a) = some (d, pB) → (if d.wd = n ∧ z.wd = n ∧ j.cn (dO.take k) = off then iU place pB (dO.set k d) (os ++ [(iT os a).owner]) ps else none) = some (ds, s1) →
      ∃ hD a_ dG, Instr.fill place A ((k, v) :: vs) = some hD ∧ aZ w0 F0 X F a_ s1 ak w ∧ aD w F ds hD.toList dG ∧ (∀ b, dG b → b < w.heap.size) ∧ (∀ b, dG b → ¬ F b) ∧ (∀ u b, dG b → ¬ a_ u b) ∧
      (∀ b, dG b → X b ∨ w0.heap.size ≤ b) ∧ ds.length = dO.length ∧ j.cn ds = j.cn dO ∧ (∀ n, (∀ d ∈ dO, d.wd = n) → ∀ d ∈ ds, d.wd = n) := by
     intro d ky aG he
     split at he
     ·rename_i af
      obtain ⟨q8, ma, wQ⟩ := af
      obtain ⟨a_, g0, g1, g2, Sn, g3, g4, g5, g6, g7, g8, g9, g10⟩ := jX h gB jl aG
      obtain ⟨br, dc, bC, Sx, eC, fb, eu, dq, eb, eN, dj, hs⟩ := aD.pick dO _ _ k z U a1
      have jr := pf g2 ky
      have ny := ag.length _ _ _ g3
      have wR := ag.length _ _ _ dj
      have lh := hs w d (bj v) Sn (fun _ _ => rfl) (fun _ _ => rfl) g3 (fun b BQ BR => by obtain ⟨u, hu⟩ := g9 b BQ; exact aH u b (dq b BR) hu)
      have wS := wP (bj v) 0 off A br dc bC fb (by rw [eu, wQ]; rfl) (by rw [wR, ny, q8, ma])
      generalize pC : ((bj v).zipIdx 0).foldl (fun cs (x : Value × Nat) => cs.setIfInBounds (off + x.2) x.1) A = qY at wS
      obtain ⟨hD, ca, dG, dH, eI, fw, jq, j0, e2, kz, iW, tj, q9⟩ := ti (place := place) ps vs (os ++ [(iT os a).owner]) pB a_ (dO.set k d) qY (fun b => Sx b ∨ Sn b) g0 (by have := iV.bd g10 _ _ pA; simpa [iT, List.foldl_append, Function.comp_def] using this) (by rw [wS]; exact lh)
       (by rintro b (J | J); exact aa b (dq b J); exact g4 b J) (by rintro b (J | J); exact aw b (dq b J); exact g5 b J)
       (by rintro u b (J | J); exact fun hu => aH u b (dq b J) (g8 u b hu); exact g6 u b J) (by rintro b (J | J); exact aX b (dq b J); exact g7 b J) ds s1 he
      refine ⟨hD, ca, dG, ?_, eI, fw, jq, j0, e2, kz, by rw [iW]; simp, by rw [tj]; exact sy _ _ _ _ a1 (by rw [q8, ma]), ?_⟩
      ·have tk : off + n ≤ A.size := by
        have : A.size = A.toList.length := by simp
        rw [this, fb]; simp [eu, wQ, wR, ma]
       simp only [Instr.fill, ej, jr, List.size_toArray, ny, q8]
       have hd : ¬ (n ≠ n ∨ A.size < off + n) := by omega
       have BS : (bj v).toArray.zipIdx.foldl (fun cs (x : Value × Nat) => cs.setIfInBounds (off + x.2) x.1) A = qY := by
        rw [← pC, ← Array.foldl_toList]; simp
       simp only [ne_eq, not_true_eq_false, decide_false, Bool.false_or, decide_eq_true_eq, gt_iff_lt]
       rw [if_neg (by simp; omega)]
       rw [show (bj v).toArray.zipIdx.foldl (fun cs x => match x with | (c, ay) => cs.setIfInBounds (off + ay) c) A = qY from BS]
       exact dH
      ·intro pD pE
       refine q9 pD (sA pE ?_)
       rw [q8, ← ma]; exact pE z (List.mem_of_getElem? a1)
     ·cases he
    split at he
    ·cases he
    ·rename_i ky
     exact key _ (fun ad e => ky ad e) aG he
   ·cases he
 | [], _ :: _, _, _, _, _, _, _, _, al, _, _, _, _, _, _, _, _ => al.elim
 | _ :: _, [], _, _, _, _, _, _, _, al, _, _, _, _, _, _, _, _ => al.elim
def df (C : bl) (s : ae) (T : TypeId) (ps : List (Nat × j)) : Option (j × ae) :=
 match (C.T T).k, (C.T T).zero with
 | .struct ad, .agg dO => if (flat (.agg dO)).isSome = true ∧ (∀ f ∈ ad, (C.T f.1).ok = true) then
   (match iU (fun k => (ad[k]?).map fun f => (f.2, (C.T f.1).sz)) s dO [] ps with
   | some (ds, s1) => some (.agg ds, s1)
   | none => none) else none
 | _, _ => none
def cR (C : bl) (s : ae) (T : TypeId) (n : Nat) (ps : List (Nat × j)) : Option (j × ae) :=
 match (C.T T).k with
 | .slice e => if (C.T e).ok = true ∧ (C.T e).zero.wd = (C.T e).sz ∧ (flat (C.T e).zero).isSome = true ∧ (C.T e).sz ≠ 0 ∧ n * (C.T e).sz ≤ 16777216 then
   (match iU (fun k => some (k * (C.T e).sz, (C.T e).sz)) s (List.replicate n (C.T e).zero) [] ps with
   | some (ds, s1) => some (.aP (C.T e).sz ds, s1)
   | none => none) else none
 | _ => none
theorem BT (aJ : C.cP) : ∀ (gs : List Field), (∀ g ∈ gs, (C.T g.type).ok = true) →
  gs.mapM (fun f => (C.P.info? f.type).map fun i => (f.offset, i.size)) = some (gs.map fun g => (g.offset, (C.T g.type).sz)) := by
 intro gs
 induction gs with
 | nil => intro _; simp
 | cons g gs ih =>
   intro aN
   obtain ⟨i, d, z, f1, f2, f3, f4, f5, f6, f7⟩ := aJ.info (aN g (by simp))
   have := ih (fun g dP => aN g (by simp [dP]))
   simp [List.mapM_cons, f1, f2, this]
theorem BU (aJ : C.cP) (h : aZ w0 F0 X F S s ak w) {T : TypeId} {ps : List (Nat × j)} {vs : List (Nat × Value)} (al : iV w F s ak ps vs) (he : df C s T ps = some (av, s1)) :
  Good C w0 F0 X ak w (Instr.build T vs.toArray) av s1 := by
 unfold df at he
 split at he
 ·rename_i ad dO ai a1
  split at he
  ·rename_i af
   obtain ⟨kI, BV⟩ := af
   split at he
   ·rename_i ds s2 fo
    simp only [Option.some.injEq, Prod.mk.injEq] at he
    obtain ⟨rfl, rfl⟩ := he
    obtain ⟨i, d, z, aC, aF, a6, bQ, bT, bc, a8⟩ := aJ.info (dr ai (by simp))
    rw [ai] at a8
    obtain ⟨gs, rfl, wT⟩ := pb a8
    obtain ⟨cQ, hU⟩ := Option.isSome_iff_exists.1 kI
    have kJ := bT cQ (by rw [a1]; exact hU)
    have el : aD w F dO cQ.toArray.toList (fun _ => False) := by
     have := (ag.flat (w := w) (F := F) _).1 (.agg dO) cQ (fun _ => False) (Nat.le_refl _) hU
     rw [ag] at this
     simpa using this
    have cI : iV w F s ak (ps.map fun p => (p.1, iT [] p.2)) vs := by simpa [iT] using al
    obtain ⟨hD, a_, dG, dH, eI, fw, jq, j0, e2, kz, iW, tj, q9⟩ := ti ps vs [] s S dO cQ.toArray (fun _ => False) h cI el (fun _ h => h.elim) (fun _ h => h.elim) (fun _ _ h => h.elim) (fun _ h => h.elim) ds s2 fo
    have ej := BT aJ gs.toList (fun g aN => BV (g.type, g.offset) (by rw [← wT]; exact List.mem_map_of_mem aN))
    have BW : (fun (k : Nat) => (ad[k]?).map fun (f : TypeId × Nat) => (f.2, (C.T f.1).sz)) = fun (k : Nat) => ((gs.toList.map fun g => (g.offset, (C.T g.type).sz)).toArray)[k]? := by
     funext k
     rw [← wT]
     simp only [List.getElem?_map, List.getElem?_toArray, Option.map_map]
     rfl
    rw [BW] at dH
    refine ⟨.agg hD, w, F, a_, run_build w T vs.toArray hD ?_, eI, .inr ⟨rfl, ⟨_, rfl⟩, dG, by simp only [bj, eS]; rw [ag]; exact fw, jq, j0, e2, kz⟩⟩
    unfold Program.built
    simp only [aC, bc, bQ, ej, kJ]
    exact dH
   ·cases he
  ·cases he
 ·cases he
theorem BX (aJ : C.cP) (h : aZ w0 F0 X F S s ak w) {T : TypeId} {n : Nat} {ps : List (Nat × j)} {vs : List (Nat × Value)} (al : iV w F s ak ps vs) (he : cR C s T n ps = some (av, s1)) :
  Good C w0 F0 X ak w (Instr.buildSlice T n vs.toArray) av s1 := by
 unfold cR at he
 split at he
 ·rename_i e ai
  split at he
  ·rename_i af
   obtain ⟨jt, j3, kI, cB, LF⟩ := af
   split at he
   ·rename_i ds s2 fo
    simp only [Option.some.injEq, Prod.mk.injEq] at he
    obtain ⟨rfl, rfl⟩ := he
    obtain ⟨tc, d, td, aC, aF, a6, bQ, bT, bc, a8⟩ := aJ.info (dr ai (by simp))
    rw [ai] at a8
    have := gP a8; subst this
    obtain ⟨i, te, z, f1, f2, f3, f4, f5, f6, f7⟩ := aJ.info jt
    obtain ⟨cQ, hU⟩ := Option.isSome_iff_exists.1 kI
    have kJ := f5 cQ hU
    have el : ∀ az, ag w F (C.T e).zero cQ az := fun az => (ag.flat _).1 _ cQ az (Nat.le_refl _) hU
    have jv : cQ.length = (C.T e).sz := by rw [ag.length _ _ _ (el (fun _ => False)), j3]
    generalize fb : ((Array.range (n * (C.T e).sz)).map ((if n * (C.T e).sz = 0 then #[] else cQ.toArray)[· % (if n * (C.T e).sz = 0 then (#[] : Array Value) else cQ.toArray).size]!)) = A
    have tk : A.toList = (List.replicate n cQ).flatten := by
     rw [← fb]
     by_cases bk : n * (C.T e).sz = 0
     ·have : n = 0 := by
       rcases Nat.mul_eq_zero.1 bk with h | h
       ·exact h
       ·exact (cB h).elim
      subst this
      simp
     ·simp only [bk, if_false]
      have := q5 cQ n
      rw [jv] at this
      simpa [jv] using this
    have cI : iV w F s ak (ps.map fun p => (p.1, iT [] p.2)) vs := by simpa [iT] using al
    obtain ⟨hD, a_, dG, dH, eI, fw, jq, j0, e2, kz, iW, tj, q9⟩ := ti ps vs [] s S (List.replicate n (C.T e).zero) A (fun _ => False) h cI (by rw [tk]; exact aD.replicate el n _) (fun _ h => h.elim) (fun _ h => h.elim) (fun _ _ h => h.elim) (fun _ h => h.elim) ds s2 fo
    have hlen : ds.length = n := by rw [iW]; simp
    have wU := q9 (C.T e).sz (by intro d ab; rw [List.eq_of_mem_replicate ab]; exact j3)
    have BZ : hD.toList.length = n * (C.T e).sz := by rw [aD.mo fw wU, hlen]
    have B0 : hD.size = n * (C.T e).sz := by rw [← BZ]; simp
    have LG : n ≤ 16777216 := by
     have : n * 1 ≤ n * (C.T e).sz := Nat.mul_le_mul_left _ (by omega)
     omega
    have gz := eI.pr (an := w.alloc (.cells hD e)) (sz := (C.T e).sz) (cap := n) (xs := ds) (cur := hD) (e := e) (fr := (0, 0)) (Sn := dG) rfl rfl rfl rfl
     (fun o _ ⟨_, aa⟩ => absurd aa (Nat.not_lt_zero _)) (by omega) (by unfold maxLen; omega) B0 wU (by rw [hlen, List.take_of_length_le (by omega)]; exact fw) jq j0 e2 kz
    rw [hlen] at gz
    refine ⟨_, _, F, a_, ?_, gz.1, gz.2⟩
    by_cases bk : n * (C.T e).sz = 0
    ·simp only [bk, if_true] at fb
     have nz : (Array.map (fun _ => (default : Value)) (Array.range 0)) = A := by
      have : n = 0 := by
       rcases Nat.mul_eq_zero.1 bk with h | h
       ·exact h
       ·exact (cB h).elim
      apply Array.ext'
      rw [tk, this]
      simp
     simp [Instr.buildSlice, run_underlying bc, gg f1, f2, bk, newRow]
     rw [nz, dH]
     simp
    ·simp only [bk, if_false] at fb
     have hd : ¬ (16777216 < n * (C.T e).sz) := by omega
     simp [Instr.buildSlice, run_underlying bc, gg f1, f2, bk, hd, nj f1 f4, kJ, newRow]
     have nz : (Array.map (fun x => cQ[x % cQ.length]?.getD default) (Array.range (n * (C.T e).sz))) = A := by
      rw [← fb]; simp
     rw [nz, dH]
     simp
   ·cases he
  ·cases he
 ·cases he
end
inductive du where
 | cK (x : aq)
 | eo (x : aq)
 | pick (c a b : aq)
 | ek (T : TypeId)
 | da (T : TypeId) (x : aq)
 | df (T : TypeId) (ps : List (Nat × aq))
 | cR (T : TypeId) (n : Nat) (ps : List (Nat × aq))
 | cH (T : TypeId) (x : aq)
 | dC (T : TypeId) (x y : aq)
 | dN (x : aq)
 | bW (op : BinOp) (T : TypeId) (x y : aq)
 | un (op : UnOp) (x : aq)
 | dg (A B : TypeId) (x : aq)
 | gp (f : FuncId) (cs : List aq)
 | en (T : TypeId) (l c : aq)
 | cU (T : TypeId) (x : aq) (bV ax : Option aq)
 | dt (T : TypeId) (x : aq) (k : Nat)
 | dm (T : TypeId) (x i : aq)
 | idx (T : TypeId) (x i : aq)
 | ex (x : aq) (k : Nat)
 | hA (T : TypeId) (x : aq) (k : Nat)
 | call (f : aq) (args : List aq)
 | len (T : TypeId) (x : aq)
 | app (T aV : TypeId) (x y : aq)
 | shr (aQ : du)
 | iS (T aV : TypeId) (x y : aq)
 | cap (T : TypeId) (x : aq)
 | j7 (e_ : Bool) (x y : aq)
 | bad
 | hV (f : aq) (args : List aq) (u x : Nat)
 | hW (f : aq) (args : List aq) (us : List Nat)
 | gQ (T : TypeId) (x : aq)
 | lq (x : aq)
 | kK (x : aq)
def du.base : du → du
 | .shr aQ => aQ
 | .iS T aV x y => .app T aV x y
 | .hV f args _ _ => .call f args
 | .hW f args _ => .call f args
 | .gQ T x => .da T x
 | .lq x => .eo x
 | .kK x => .cK x
 | aQ => aQ
def nA : List Operand → Option (List aq)
 | [] => some []
 | o :: os => match cg o, nA os with
   | some x, some xs => some (x :: xs)
   | _, _ => none
def nB : List (Nat × Operand) → Option (List (Nat × aq))
 | [] => some []
 | (k, o) :: os => match cg o, nB os with
   | some x, some xs => some ((k, x) :: xs)
   | _, _ => none
def pF : Option Operand → Option (Option aq)
 | none => some none
 | some o => (cg o).map some
def b5 : Op → Option du
 | .move x => (cg x).map .cK
 | .assign x => (cg x).map .eo
 | .pick c a b => match cg c, cg a, cg b with
   | some c, some a, some b => some (.pick c a b)
   | _, _, _ => none
 | .alloc T => some (.ek T)
 | .box T x => (cg x).map (.da T)
 | .build T ps => (nB ps.toList).map (.df T)
 | .buildSlice T n ps => (nB ps.toList).map (.cR T n)
 | .load T x => (cg x).map (.cH T)
 | .store T x y => match cg x, cg y with
   | some x, some y => some (.dC T x y)
   | _, _ => none
 | .nilCheck x => (cg x).map .dN
 | .binOp op T x y _ => match cg x, cg y with
   | some x, some y => some (.bW op T x y)
   | _, _ => none
 | .unOp op _ x => (cg x).map (.un op)
 | .convert A B x => (cg x).map (.dg A B)
 | .makeFunc (.func f) first cs => if first.isEmpty then (nA cs.toList).map (.gp f) else none
 | .makeSlice T l c => match cg l, cg c with
   | some l, some c => some (.en T l c)
   | _, _ => none
 | .slice T x bV ax none => match cg x, pF bV, pF ax with
   | some x, some bV, some ax => some (.cU T x bV ax)
   | _, _, _ => none
 | .fieldAddr T x k => (cg x).map fun x => .dt T x k
 | .indexAddr T x i => match cg x, cg i with
   | some x, some i => some (.dm T x i)
   | _, _ => none
 | .index T x i => match cg x, cg i with
   | some x, some i => some (.idx T x i)
   | _, _ => none
 | .extract x k => (cg x).map fun x => .ex x k
 | .field T x k => (cg x).map fun x => .hA T x k
 | .call c => match c.callee with
   | .value f => match cg f, nA c.args.toList with
     | some f, some xs => some (.call f xs)
     | _, _ => none
   | .builtin .len => match c.args.toList, c.argTypes.toList with
     | [x], [T] => (cg x).map (.len T)
     | _, _ => none
   | .builtin .cap => match c.args.toList, c.argTypes.toList with
     | [x], [T] => (cg x).map (.cap T)
     | _, _ => none
   | .builtin .min => match c.args.toList with
     | [x, y] => match cg x, cg y with
       | some x, some y => some (.j7 false x y)
       | _, _ => none
     | _ => none
   | .builtin .max => match c.args.toList with
     | [x, y] => match cg x, cg y with
       | some x, some y => some (.j7 true x y)
       | _, _ => none
     | _ => none
   | .builtin .append => match c.args.toList, c.argTypes.toList with
     | [x, y], [T, aV] => match cg x, cg y with
       | some x, some y => some (.app T aV x y)
       | _, _ => none
     | _, _ => none
   | _ => none
 | _ => none
def j7 (e_ : Bool) : j → j → Option j
 | .str a, .str b => some (.str (qI e_ a b))
 | _, _ => none
def j8 (s : ae) : j → Option (j × ae)
 | .h y q => bE s (.h y q)
 | d => some (d, s)
def aR (C : bl) (s : ae) : du → Option (j × ae)
 | .cK x => some (au s x, s)
 | .eo x => match au s x with
   | .h y q => bE s (.h y q)
   | d => some (d, s)
 | .pick c a b => match au s c with
   | .bool c9 => some (if c9 then au s a else au s b, s)
   | _ => none
 | .ek T => (ek C T).map fun d => (d, s)
 | .da _ x => da s (au s x)
 | .df T ps => df C s T (ps.map fun p => (p.1, au s p.2))
 | .cR T n ps => cR C s T n (ps.map fun p => (p.1, au s p.2))
 | .cH T x => (cH C s T (au s x)).map fun d => (d, s)
 | .dC T x y => (dC C s T (au s x) (au s y)).map fun s1 => (.hole, s1)
 | .dN x => (dN s (au s x)).map fun d => (d, s)
 | .bW op T x y => (bW C s op T (au s x) (au s y)).map fun d => (d, s)
 | .un op x => (un op (au s x)).map fun d => (d, s)
 | .dg A B x => (dg C s A B (au s x)).map fun d => (d, s)
 | .gp f cs => some (.fn f (cs.map (au s)), s)
 | .en T l c => (en C T (au s l) (au s c)).map fun d => (d, s)
 | .cU T x bV ax => cU C s T (au s x) (bV.map (au s)) (ax.map (au s))
 | .dt T x k => (dt C s T (au s x) k).map fun d => (d, s)
 | .dm T x i => (dm C s T (au s x) (au s i)).map fun d => (d, s)
 | .idx T x i => (idx C T (au s x) (au s i)).map fun d => (d, s)
 | .ex x k => (ex s (au s x) k).map fun d => (d, s)
 | .hA T x k => (hA C s T (au s x) k).bind (j8 s)
 | .call _ _ => none
 | .len T x => (hB C s T (au s x)).map fun d => (d, s)
 | .app T aV x y => hT C s T aV (au s x) (au s y)
 | .shr _ => none
 | .hV _ _ _ _ => none
 | .hW _ _ _ => none
 | .gQ _ x => gQ s (au s x)
 | .lq x => some (au s x, s)
 | .kK x => j8 s (au s x)
 | .iS T aV x y => (iS C T aV (au s x) (au s y)).map fun d => (d, s)
 | .cap T x => match (C.T T).k, au s x with
   | .slice _, .bB => some (.int .i64 0, s)
   | _, _ => none
 | .j7 e_ x y => (j7 e_ (au s x) (au s y)).map fun d => (d, s)
 | .bad => none
section
variable {C : bl} {w0 w : World} {F0 X F : Nat → Prop} {S : Nat → Nat → Prop} {s s1 : ae} {a : Act} {av : j}
theorem mv : ∀ {os : List Operand} {xs : List aq}, nA os = some xs → os.map cg = xs.map some
 | [], xs, h => by simp [nA] at h; subst h; rfl
 | o :: os, xs, h => by
   simp only [nA] at h
   split at h
   ·rename_i x B1 U aa
    simp at h; subst h
    simp [U, mv aa]
   ·cases h
theorem tl {ak : Nat → Value} (h : aZ w0 F0 X F S s ak w) (cC : ∀ t, ak t = a.tmps.getD t undef) : ∀ {ps : List (Nat × Operand)} {xs : List (Nat × aq)}, nB ps = some xs →
  iV w F s ak (xs.map fun p => (p.1, au s p.2)) (ps.map fun p => (p.1, a.eval p.2))
 | [], xs, h => by simp [nB] at h; subst h; trivial
 | (k, o) :: ps, xs, aS => by
   simp only [nB] at aS
   split at aS
   ·rename_i x B1 U aa
    simp at aS; subst aS
    obtain ⟨g1, g2⟩ := c_ h cC U
    exact ⟨rfl, g1, g2, tl h cC aa⟩
   ·cases aS
def Next (C : bl) (w0 : World) (F0 X : Nat → Prop) (ak : Nat → Value) (w : World) (m : Sem Go.Next) (av : j) (s1 : ae) : Prop :=
 ∃ r an v aT az, m.run C.P w = .ok r an ∧ (r = .value v ∨ r = .skip ∧ v = undef) ∧ aZ w0 F0 X aT az s1 ak an ∧ gO w0 X aT az s1 ak an av v
theorem Good.next {ak : Nat → Value} {m : Sem Value} (h : Good C w0 F0 X ak w m av s1) : Next C w0 F0 X ak w (do pure (.value (← m))) av s1 := by
 obtain ⟨v, an, aT, az, U, aa, aw⟩ := h
 exact ⟨.value v, an, v, aT, az, by simp [U], .inl rfl, aa, aw⟩
theorem wV {ak : Nat → Value} (h : aZ w0 F0 X F S s ak w) {e_ : Bool} {x y : j} {fq e1 : Value} {m : Sem Go.Next} (U : ar w F s ak x fq (fun _ => False)) (aa : ar w F s ak y e1 (fun _ => False))
  (he : (j7 e_ x y).map (fun d => (d, s)) = some (av, s1)) (hm : m = (do pure (.value (← if e_ then Builtin.max2 fq e1 else Builtin.min2 fq e1)))) : Next C w0 F0 X ak w m av s1 := by
 simp only [Option.map_eq_some_iff, Prod.mk.injEq] at he
 obtain ⟨d, ab, rfl, rfl⟩ := he
 unfold j7 at ab
 split at ab
 ·rename_i a b
  simp only [Option.some.injEq] at ab; subst ab
  have aC := js U
  have aF := js aa
  subst aC aF
  subst hm
  refine ⟨.value (.string ⟨⟨qI e_ a b⟩⟩), w, _, F, S, ?_, .inl rfl, h, .inl ⟨rfl, iK _⟩⟩
  cases e_
  ·simp only [Builtin.min2, Op.stringOp, pj, qI, Bool.false_eq_true, if_false]
   cases J : (Op.bytesLess a b || a == b) <;> simp [asBool]
  ·simp only [Builtin.max2, Op.stringOp, pj, qI, if_true]
   cases J : Op.bytesLess a b <;> simp [asBool]
 ·cases ab
theorem wW (aJ : C.cP) {ak : Nat → Value} (h : aZ w0 F0 X F S s ak w) (cC : ∀ t, ak t = a.tmps.getD t undef) {o : Oper} {aQ : du} (R : b5 o.op = some aQ) (he : aR C s aQ = some (av, s1)) :
  Next C w0 F0 X ak w (execOp a.eval o) av s1 := by
 obtain ⟨dst, op, ty, pos, after, guard⟩ := o
 simp only at R
 cases op with
 | move x =>
   simp only [b5, Option.map_eq_some_iff] at R
   obtain ⟨cl, aj, rfl⟩ := R
   obtain ⟨g1, g2⟩ := c_ h cC aj
   simp only [aR, Option.some.injEq, Prod.mk.injEq] at he
   obtain ⟨rfl, rfl⟩ := he
   exact ⟨_, w, _, F, S, rfl, .inl rfl, h, .inl ⟨g1, g2⟩⟩
 | assign x =>
   simp only [b5, Option.map_eq_some_iff] at R
   obtain ⟨cl, aj, rfl⟩ := R
   obtain ⟨g1, g2⟩ := c_ h cC aj
   simp only [aR] at he
   split at he
   ·rename_i y q aY
    rw [aY] at g1 g2
    obtain ⟨a_, k0, ba, bg, Sn, cy, b2, cM, c0, e4, _⟩ := jX h g1 g2 he
    exact ⟨_, w, _, F, a_, rfl, .inl rfl, k0, .inr ⟨ba, bg, Sn, cy, b2, cM, c0, e4⟩⟩
   ·simp only [Option.some.injEq, Prod.mk.injEq] at he
    obtain ⟨rfl, rfl⟩ := he
    exact ⟨_, w, _, F, S, rfl, .inl rfl, h, .inl ⟨g1, g2⟩⟩
 | pick c x y =>
   simp only [b5] at R
   split at R
   ·rename_i LH cl gy af aj aY
    simp only [Option.some.injEq] at R; subst R
    simp only [aR] at he
    split at he
    ·rename_i b J
     simp only [Option.some.injEq, Prod.mk.injEq] at he
     obtain ⟨rfl, rfl⟩ := he
     have mu := (c_ h cC af).2
     rw [J] at mu
     have mu := mg mu
     obtain ⟨bL, bZ⟩ := c_ h cC aj
     obtain ⟨j9, pG⟩ := c_ h cC aY
     refine ⟨.value (if b then a.eval x else a.eval y), w, _, F, S, ?_, .inl rfl, h, .inl ?_⟩
     ·simp [execOp, mu, asBool]
     ·cases b
      ·exact ⟨j9, pG⟩
      ·exact ⟨bL, bZ⟩
    ·cases he
   ·cases R
 | alloc T =>
   simp only [b5, Option.some.injEq] at R; subst R
   simp only [aR, Option.map_eq_some_iff, Prod.mk.injEq] at he
   obtain ⟨d, ab, rfl, rfl⟩ := he
   exact (AX aJ h ab).next
 | box T x =>
   simp only [b5, Option.map_eq_some_iff] at R
   obtain ⟨cl, aj, rfl⟩ := R
   obtain ⟨g1, g2⟩ := c_ h cC aj
   exact (A1 h g1 g2 he).next
 | build T ps =>
   simp only [b5, Option.map_eq_some_iff] at R
   obtain ⟨B2, al, rfl⟩ := R
   obtain ⟨ps⟩ := ps
   have := (BU aJ h (tl h cC al) he).next
   simpa [execOp] using this
 | buildSlice T n ps =>
   simp only [b5, Option.map_eq_some_iff] at R
   obtain ⟨B2, al, rfl⟩ := R
   obtain ⟨ps⟩ := ps
   have := (BX aJ h (tl h cC al) he).next
   simpa [execOp] using this
 | load T x =>
   simp only [b5, Option.map_eq_some_iff] at R
   obtain ⟨cl, aj, rfl⟩ := R
   obtain ⟨g1, g2⟩ := c_ h cC aj
   simp only [aR, Option.map_eq_some_iff, Prod.mk.injEq] at he
   obtain ⟨d, ab, rfl, rfl⟩ := he
   exact (AR aJ h g2 ab).next
 | store T x y =>
   simp only [b5] at R
   split at R
   ·rename_i cl gy aj aY
    simp only [Option.some.injEq] at R; subst R
    simp only [aR, Option.map_eq_some_iff, Prod.mk.injEq] at he
    obtain ⟨s2, ab, rfl, rfl⟩ := he
    obtain ⟨an, az, U, aa⟩ := AV aJ h (c_ h cC aj).2 (c_ h cC aY).1 (c_ h cC aY).2 ab
    exact ⟨.skip, an, undef, F, az, by simp [execOp, U], .inr ⟨rfl, rfl⟩, aa, .inl ⟨rfl, by rw [ar]; trivial⟩⟩
   ·cases R
 | nilCheck x =>
   simp only [b5, Option.map_eq_some_iff] at R
   obtain ⟨cl, aj, rfl⟩ := R
   obtain ⟨g1, g2⟩ := c_ h cC aj
   simp only [aR, Option.map_eq_some_iff, Prod.mk.injEq] at he
   obtain ⟨d, ab, rfl, rfl⟩ := he
   obtain ⟨rfl, al, aA⟩ := Bf h g2 ab
   refine ⟨.value (a.eval x), w, _, F, S, ?_, .inl rfl, h, .inl ⟨al, g2⟩⟩
   rcases aA with ⟨b, J⟩ | ⟨f, c, J⟩ <;> simp [execOp, J]
 | binOp op T x y LI =>
   simp only [b5] at R
   split at R
   ·rename_i cl gy aj aY
    simp only [Option.some.injEq] at R; subst R
    simp only [aR, Option.map_eq_some_iff, Prod.mk.injEq] at he
    obtain ⟨d, ab, rfl, rfl⟩ := he
    exact (Bc aJ h x y (c_ h cC aj).2 (c_ h cC aY).2 ab).next
   ·cases R
 | unOp op T x =>
   simp only [b5, Option.map_eq_some_iff] at R
   obtain ⟨cl, aj, rfl⟩ := R
   simp only [aR, Option.map_eq_some_iff, Prod.mk.injEq] at he
   obtain ⟨d, ab, rfl, rfl⟩ := he
   exact (Bd h (c_ h cC aj).2 ab).next
 | convert A B x =>
   simp only [b5, Option.map_eq_some_iff] at R
   obtain ⟨cl, aj, rfl⟩ := R
   simp only [aR, Option.map_eq_some_iff, Prod.mk.injEq] at he
   obtain ⟨d, ab, rfl, rfl⟩ := he
   exact (Bo aJ h (c_ h cC aj).2 ab).next
 | makeFunc fn first cs =>
   cases fn with
   | func f =>
     simp only [b5] at R
     split at R
     ·rename_i B3
      simp only [Option.map_eq_some_iff] at R
      obtain ⟨lr, fp, rfl⟩ := R
      simp only [aR, Option.some.injEq, Prod.mk.injEq] at he
      obtain ⟨rfl, rfl⟩ := he
      have B4 : first = #[] := by simpa using B3
      subst B4
      refine ⟨_, w, _, F, S, rfl, .inl rfl, h, .inl ⟨rfl, ?_⟩⟩
      rw [ar]
      refine ⟨cs.map a.eval, by simp, ?_⟩
      simpa using q7 h cC _ _ (mv fp)
     ·cases R
   | _ => simp [b5] at R
 | makeSlice T l c =>
   simp only [b5] at R
   split at R
   ·rename_i cl gy aj aY
    simp only [Option.some.injEq] at R; subst R
    simp only [aR, Option.map_eq_some_iff, Prod.mk.injEq] at he
    obtain ⟨d, ab, rfl, rfl⟩ := he
    exact (BK aJ h (c_ h cC aj).2 (c_ h cC aY).2 ab).next
   ·cases R
 | slice T x bV ax e_ =>
   cases e_ with
   | some m => simp [b5] at R
   | none =>
     simp only [b5] at R
     split at R
     ·rename_i cl LJ wX aj iM iN
      simp only [Option.some.injEq] at R; subst R
      obtain ⟨g1, g2⟩ := c_ h cC aj
      have opt : ∀ {o : Option Operand} {ij : Option aq}, pF o = some ij → kF w F s ak (ij.map (au s)) (o.map a.eval) := by
       intro o ij bo
       cases o with
       | none => simp [pF] at bo; subst bo; trivial
       | some o =>
         simp only [pF, Option.map_eq_some_iff] at bo
         obtain ⟨x, aj, rfl⟩ := bo
         exact (c_ h cC aj).2
      exact (Br aJ h g1 g2 (opt iM) (opt iN) he).next
     ·cases R
 | fieldAddr T x k =>
   simp only [b5, Option.map_eq_some_iff] at R
   obtain ⟨cl, aj, rfl⟩ := R
   obtain ⟨g1, g2⟩ := c_ h cC aj
   simp only [aR, Option.map_eq_some_iff, Prod.mk.injEq] at he
   obtain ⟨d, ab, rfl, rfl⟩ := he
   exact (AL aJ h g1 g2 ab).next
 | indexAddr T x i =>
   simp only [b5] at R
   split at R
   ·rename_i cl gy aj aY
    simp only [Option.some.injEq] at R; subst R
    simp only [aR, Option.map_eq_some_iff, Prod.mk.injEq] at he
    obtain ⟨d, ab, rfl, rfl⟩ := he
    exact (AM aJ h (c_ h cC aj).2 (c_ h cC aY).2 ab).next
   ·cases R
 | index T x i =>
   simp only [b5] at R
   split at R
   ·rename_i cl gy aj aY
    simp only [Option.some.injEq] at R; subst R
    simp only [aR, Option.map_eq_some_iff, Prod.mk.injEq] at he
    obtain ⟨d, ab, rfl, rfl⟩ := he
    exact (Bl aJ h (c_ h cC aj).2 (c_ h cC aY).2 ab).next
   ·cases R
 | extract x k =>
   simp only [b5, Option.map_eq_some_iff] at R
   obtain ⟨cl, aj, rfl⟩ := R
   simp only [aR, Option.map_eq_some_iff, Prod.mk.injEq] at he
   obtain ⟨d, ab, rfl, rfl⟩ := he
   exact (Bi h (c_ h cC aj).2 ab).next
 | field T x k =>
   simp only [b5, Option.map_eq_some_iff] at R
   obtain ⟨cl, aj, rfl⟩ := R
   simp only [aR, Option.bind_eq_some_iff] at he
   obtain ⟨d, ab, he⟩ := he
   obtain ⟨v, an, aT, az, aB, h_, jk⟩ := Bj aJ h (c_ h cC aj).2 ab
   unfold j8 at he
   split at he
   ·rename_i y q
    have B5 : ar an aT s ak (.h y q) v (fun _ => False) := by
     rcases jk with ⟨_, g2⟩ | ⟨g1, _⟩
     ·exact g2
     ·cases g1
    obtain ⟨a_, k0, ba, bg, Sn, cy, b2, cM, c0, e4, _⟩ := jX h_ rfl B5 he
    exact ⟨.value v, an, v, aT, a_, by simp [execOp, aB], .inl rfl, k0, .inr ⟨ba, bg, Sn, cy, b2, cM, c0, e4⟩⟩
   ·simp only [Option.some.injEq, Prod.mk.injEq] at he
    obtain ⟨rfl, rfl⟩ := he
    exact ⟨.value v, an, v, aT, az, by simp [execOp, aB], .inl rfl, h_, jk⟩
 | call c =>
   obtain ⟨callee, args, argTypes⟩ := c
   simp only [b5] at R
   split at R
   ·split at R
    ·simp only [Option.some.injEq] at R; subst R
     simp [aR] at he
    ·cases R
   ·split at R
    ·rename_i x T hX mw
     simp only [Option.map_eq_some_iff] at R
     obtain ⟨cl, aj, rfl⟩ := R
     simp only [aR, Option.map_eq_some_iff, Prod.mk.injEq] at he
     obtain ⟨d, ab, rfl, rfl⟩ := he
     have := (Bm (ty := ty) aJ h (c_ h cC aj).2 ab).next
     have aC : args = #[x] := by apply Array.ext'; exact hX
     have aF : argTypes = #[T] := by apply Array.ext'; exact mw
     subst aC aF
     simpa [execOp, resolve, invoke, builtin] using this
    ·cases R
   ·split at R
    ·rename_i x T hX mw
     simp only [Option.map_eq_some_iff] at R
     obtain ⟨cl, aj, rfl⟩ := R
     simp only [aR] at he
     split at he
     ·rename_i e ai B6
      simp only [Option.some.injEq, Prod.mk.injEq] at he
      obtain ⟨rfl, rfl⟩ := he
      have aA := (c_ h cC aj).2
      rw [B6] at aA
      have := kB aA
      obtain ⟨i, d, z, aC, aF, a6, bQ, bT, bc, a8⟩ := aJ.info (dr ai (by simp))
      rw [ai] at a8
      have ab := gP a8; subst ab
      have B7 : args = #[x] := by apply Array.ext'; exact hX
      have B8 : argTypes = #[T] := by apply Array.ext'; exact mw
      subst B7 B8
      have aB : (Builtin.cap_ #[T] ty #[a.eval x]).run C.P w = .ok (.int .i64 0) w := by
       rw [this]; simp [Builtin.cap_, run_underlying bc, goInt]
      have := (Good.same (av := .int .i64 0) h aB rfl (of_int _ _)).next
      simpa [execOp, resolve, invoke, builtin] using this
     ·cases he
    ·cases R
   ·split at R
    ·rename_i x y hX
     split at R
     ·rename_i cl gy aj aY
      simp only [Option.some.injEq] at R; subst R
      have aC : args = #[x, y] := by apply Array.ext'; exact hX
      subst aC
      exact wV h (c_ h cC aj).2 (c_ h cC aY).2 he (by simp [execOp, resolve, invoke, builtin, Builtin.min_])
     ·cases R
    ·cases R
   ·split at R
    ·rename_i x y hX
     split at R
     ·rename_i cl gy aj aY
      simp only [Option.some.injEq] at R; subst R
      have aC : args = #[x, y] := by apply Array.ext'; exact hX
      subst aC
      exact wV h (c_ h cC aj).2 (c_ h cC aY).2 he (by simp [execOp, resolve, invoke, builtin, Builtin.max_])
     ·cases R
    ·cases R
   ·split at R
    ·rename_i x y T aV hX mw
     split at R
     ·rename_i cl gy aj aY
      simp only [Option.some.injEq] at R; subst R
      have := (BC (ty := ty) aJ h (c_ h cC aj).2 (c_ h cC aY).2 he).next
      have aC : args = #[x, y] := by apply Array.ext'; exact hX
      have aF : argTypes = #[T, aV] := by apply Array.ext'; exact mw
      subst aC aF
      simpa [execOp, resolve, invoke, builtin] using this
     ·cases R
    ·cases R
   ·cases R
 | _ => simp [b5] at R
end
mutual
def j.R : j → List Nat
 | .h x _ => [x]
 | .al x _ => [x]
 | .J x _ => [x]
 | .fn _ cap => j.cE cap
 | _ => []
def j.cE : List j → List Nat
 | [] => []
 | d :: ds => d.R ++ j.cE ds
end
inductive j_ where
 | no
 | bd
 | bz
structure dI where
 k : j_
 x : Nat
 d : j
def j_.app (k : j_) (x : Nat) (a : j) : j := match k with
 | .no => a
 | .bd => b1.bd x a
 | .bz => b1.bz x a
def dI.at (m : dI) (u : Nat) (a : j) : j := if u = m.x then m.d else m.k.app m.x a
def fT : List dI → Nat → j → j
 | [], _, a => a
 | m :: ms, u, a => fT ms u (m.at u a)
def b0 (ms : List dI) (s : ae) : ae := fun u => fT ms u (s u)
theorem wY : ∀ (ms gC : List dI) (u : Nat) (a : j), fT (ms ++ gC) u a = fT gC u (fT ms u a)
 | [], _, _, _ => rfl
 | m :: ms, gC, u, a => by simp only [List.cons_append, fT]; exact wY ms gC u _
theorem hh (ms gC : List dI) (s : ae) : b0 (ms ++ gC) s = b0 gC (b0 ms s) := by
 funext u; simp [b0, wY]
theorem B9 {ms : List dI} {s ah : ae} {u : Nat} (h : ah u = s u) : b0 ms ah u = b0 ms s u := by simp [b0, h]
theorem pH (s : ae) (x : Nat) (d : j) : b4 (fa x s) x d = b0 [⟨.bd, x, d⟩] s := by
 funext u; simp only [b0, fT, dI.at, b4, fa, j_.app]
theorem wZ (s : ae) (x : Nat) (d : j) : b4 (hb x s) x d = b0 [⟨.bz, x, d⟩] s := by
 funext u; simp only [b0, fT, dI.at, b4, hb, j_.app]
theorem tm (s : ae) (x : Nat) (d : j) : b4 s x d = b0 [⟨.no, x, d⟩] s := by
 funext u; simp only [b0, fT, dI.at, b4, j_.app]
mutual
theorem pI {x : Nat} : ∀ a : j, x ∉ a.R → bd x a = a
 | .h y q, h => by
   simp only [j.R, List.mem_singleton] at h
   simp only [bd]; rw [if_neg (fun e => h e.symm)]
 | .al y q, h => by
   simp only [j.R, List.mem_singleton] at h
   simp only [bd]; rw [if_neg (fun e => h e.symm)]
 | .J y q, h => rfl
 | .fn f cap, h => by simp only [bd]; rw [w1 cap (by simpa [j.R] using h)]
 | .hole, _ => rfl
 | .bool _, _ => rfl
 | .cO, _ => rfl
 | .int _ _, _ => rfl
 | .str _, _ => rfl
 | .b7, _ => rfl
 | .bB, _ => rfl
 | .slice _, _ => rfl
 | .aP _ _, _ => rfl
 | .ref _, _ => rfl
 | .bn _, _ => rfl
 | .agg _, _ => rfl
 | .tuple _, _ => rfl
 | .b_ _, _ => rfl
theorem w1 {x : Nat} : ∀ ds : List j, x ∉ j.cE ds → eZ x ds = ds
 | [], _ => rfl
 | d :: ds, h => by
   simp only [j.cE, List.mem_append, not_or] at h
   simp only [eZ]; rw [pI d h.1, w1 ds h.2]
end
mutual
theorem tn {x : Nat} : ∀ a : j, x ∉ a.R → bz x a = a
 | .h y q, h => by
   simp only [j.R, List.mem_singleton] at h
   simp only [bz]; rw [if_neg (fun e => h e.symm)]
 | .al y q, h => by
   simp only [j.R, List.mem_singleton] at h
   simp only [bz]; rw [if_neg (fun e => h e.symm)]
 | .J y q, h => by
   simp only [j.R, List.mem_singleton] at h
   simp only [bz]; rw [if_neg (fun e => h e.symm)]
 | .fn f cap, h => by simp only [bz]; rw [w2 cap (by simpa [j.R] using h)]
 | .hole, _ => rfl
 | .bool _, _ => rfl
 | .cO, _ => rfl
 | .int _ _, _ => rfl
 | .str _, _ => rfl
 | .b7, _ => rfl
 | .bB, _ => rfl
 | .slice _, _ => rfl
 | .aP _ _, _ => rfl
 | .ref _, _ => rfl
 | .bn _, _ => rfl
 | .agg _, _ => rfl
 | .tuple _, _ => rfl
 | .b_ _, _ => rfl
theorem w2 {x : Nat} : ∀ ds : List j, x ∉ j.cE ds → fl x ds = ds
 | [], _ => rfl
 | d :: ds, h => by
   simp only [j.cE, List.mem_append, not_or] at h
   simp only [fl]; rw [tn d h.1, w2 ds h.2]
end
theorem pJ {k : j_} {x : Nat} {a : j} (h : k = .no ∨ x ∉ a.R) : k.app x a = a := by
 cases k with
 | no => rfl
 | bd => exact pI a (by simpa using h)
 | bz => exact tn a (by simpa using h)
mutual
theorem w3 (x y : Nat) : ∀ a : j, bd x (bd y a) = bd y (bd x a)
 | .h z q => by simp only [bd]; by_cases U : z = x <;> by_cases aa : z = y <;> by_cases aw : q = [] <;> simp [U, aa, aw, bd] <;> (subst_vars; simp_all [bd])
 | .al z q => by simp only [bd]; by_cases U : z = x <;> by_cases aa : z = y <;> simp [U, aa, bd] <;> (subst_vars; simp_all [bd])
 | .J z q => rfl
 | .fn f cap => by simp only [bd]; rw [w4 x y cap]
 | .hole => rfl
 | .bool _ => rfl
 | .cO => rfl
 | .int _ _ => rfl
 | .str _ => rfl
 | .b7 => rfl
 | .bB => rfl
 | .slice _ => rfl
 | .aP _ _ => rfl
 | .ref _ => rfl
 | .bn _ => rfl
 | .agg _ => rfl
 | .tuple _ => rfl
 | .b_ _ => rfl
theorem w4 (x y : Nat) : ∀ ds : List j, eZ x (eZ y ds) = eZ y (eZ x ds)
 | [] => rfl
 | d :: ds => by simp only [eZ]; rw [w3 x y d, w4 x y ds]
end
mutual
theorem w5 (x y : Nat) : ∀ a : j, bz x (bz y a) = bz y (bz x a)
 | .h z q => by simp only [bz]; by_cases U : z = x <;> by_cases aa : z = y <;> simp [U, aa, bz] <;> (subst_vars; simp_all [bz])
 | .al z q => by simp only [bz]; by_cases U : z = x <;> by_cases aa : z = y <;> simp [U, aa, bz] <;> (subst_vars; simp_all [bz])
 | .J z q => by simp only [bz]; by_cases U : z = x <;> by_cases aa : z = y <;> simp [U, aa, bz] <;> (subst_vars; simp_all [bz])
 | .fn f cap => by simp only [bz]; rw [w6 x y cap]
 | .hole => rfl
 | .bool _ => rfl
 | .cO => rfl
 | .int _ _ => rfl
 | .str _ => rfl
 | .b7 => rfl
 | .bB => rfl
 | .slice _ => rfl
 | .aP _ _ => rfl
 | .ref _ => rfl
 | .bn _ => rfl
 | .agg _ => rfl
 | .tuple _ => rfl
 | .b_ _ => rfl
theorem w6 (x y : Nat) : ∀ ds : List j, fl x (fl y ds) = fl y (fl x ds)
 | [] => rfl
 | d :: ds => by simp only [fl]; rw [w5 x y d, w6 x y ds]
end
mutual
theorem tp (x y : Nat) : ∀ a : j, bd x (bz y a) = bz y (bd x a)
 | .h z q => by simp only [bz, bd]; by_cases U : z = x <;> by_cases aa : z = y <;> by_cases aw : q = [] <;> simp [U, aa, aw, bz, bd] <;> (subst_vars; simp_all [bz, bd])
 | .al z q => by simp only [bz, bd]; by_cases U : z = x <;> by_cases aa : z = y <;> simp [U, aa, bz, bd] <;> (subst_vars; simp_all [bz, bd])
 | .J z q => by simp only [bz, bd]; by_cases aa : z = y <;> simp [aa, bd]
 | .fn f cap => by simp only [bz, bd]; rw [w7 x y cap]
 | .hole => rfl
 | .bool _ => rfl
 | .cO => rfl
 | .int _ _ => rfl
 | .str _ => rfl
 | .b7 => rfl
 | .bB => rfl
 | .slice _ => rfl
 | .aP _ _ => rfl
 | .ref _ => rfl
 | .bn _ => rfl
 | .agg _ => rfl
 | .tuple _ => rfl
 | .b_ _ => rfl
theorem w7 (x y : Nat) : ∀ ds : List j, eZ x (fl y ds) = fl y (eZ x ds)
 | [] => rfl
 | d :: ds => by simp only [fl, eZ]; rw [tp x y d, w7 x y ds]
end
theorem B_ (k l : j_) (x y : Nat) (a : j) : k.app x (l.app y a) = l.app y (k.app x a) := by
 cases k <;> cases l <;> simp only [j_.app] <;> first | rfl | exact w3 .. | exact w5 .. | exact tp .. | exact (tp ..).symm
def aq.use (s : ae) : aq → List Nat
 | .t n => n :: (s n).R
 | .c av => av.R
 | .f _ => []
def aq.iX (s : ae) : List aq → List Nat
 | [] => []
 | x :: xs => x.use s ++ aq.iX s xs
def tq (s : ae) : Option aq → List Nat
 | none => []
 | some x => x.use s
def use (s : ae) : du → List Nat
 | .cK x => x.use s
 | .eo x => x.use s
 | .pick c a b => c.use s ++ (a.use s ++ b.use s)
 | .ek _ => []
 | .da _ x => x.use s
 | .df _ ps => aq.iX s (ps.map (·.2))
 | .cR _ _ ps => aq.iX s (ps.map (·.2))
 | .cH _ x => x.use s
 | .dC _ x y => x.use s ++ y.use s
 | .dN x => x.use s
 | .bW _ _ x y => x.use s ++ y.use s
 | .un _ x => x.use s
 | .dg _ _ x => x.use s
 | .gp _ cs => aq.iX s cs
 | .en _ l c => l.use s ++ c.use s
 | .cU _ x bV ax => x.use s ++ (tq s bV ++ tq s ax)
 | .dt _ x _ => x.use s
 | .dm _ x i => x.use s ++ i.use s
 | .idx _ x i => x.use s ++ i.use s
 | .ex x _ => x.use s
 | .hA _ x _ => x.use s
 | .call f args => f.use s ++ aq.iX s args
 | .len _ x => x.use s
 | .app _ _ x y => x.use s ++ y.use s
 | .shr aQ => use s aQ
 | .hV f args u x => u :: x :: (f.use s ++ aq.iX s args)
 | .hW f args us => us.flatMap (fun u => u :: (s u).R) ++ (f.use s ++ aq.iX s args)
 | .gQ _ x => x.use s
 | .lq x => x.use s
 | .kK x => x.use s
 | .iS _ _ x y => x.use s ++ y.use s
 | .cap _ x => x.use s
 | .j7 _ x y => x.use s ++ y.use s
 | .bad => []
def bX (s : ae) : du → List Nat
 | .eo x => (au s x).R
 | .da _ x => (au s x).R
 | .df _ ps => j.cE (ps.map fun p => au s p.2)
 | .cR _ _ ps => j.cE (ps.map fun p => au s p.2)
 | .dC _ x y => (au s x).R ++ (au s y).R
 | .hA _ x _ => (au s x).R
 | .kK x => (au s x).R
 | .cU _ x _ _ => (au s x).R
 | .app _ _ x y => (au s x).R ++ (au s y).R
 | .shr aQ => bX s aQ
 | _ => []
def b8 (aV : List Nat) (ah s : ae) : Prop := ∀ u ∈ aV, ah u = s u
theorem b8.left {aV V : List Nat} {ah s : ae} (h : b8 (aV ++ V) ah s) : b8 aV ah s := fun u hu => h u (List.mem_append_left _ hu)
theorem b8.right {aV V : List Nat} {ah s : ae} (h : b8 (aV ++ V) ah s) : b8 V ah s := fun u hu => h u (List.mem_append_right _ hu)
theorem b8.b0 {aV : List Nat} {ah s : ae} (h : b8 aV ah s) (ms : List dI) : b8 aV (b0 ms ah) (b0 ms s) := fun u hu => B9 (h u hu)
theorem b8.sub {aV V : List Nat} {ah s : ae} (h : b8 aV ah s) (R : ∀ u ∈ V, u ∈ aV) : b8 V ah s := fun u hu => h u (R u hu)
theorem aq.mx {s : ae} {x : aq} : ∀ u ∈ (au s x).R, u ∈ x.use s := by
 intro u hu
 cases x with
 | t n =>
   simp only [au, fm] at hu
   split at hu
   ·simp [aq.use, hu]
   ·simp only [j.R, List.mem_singleton] at hu; simp [aq.use, hu]
 | c av => exact hu
 | f g => simp [au, j.R, j.cE] at hu
theorem aq.dh {s ah : ae} {x : aq} (h : b8 (x.use s) ah s) : au ah x = au s x := by
 cases x with
 | t n => simp only [au]; rw [h n (by simp [aq.use])]
 | c av => rfl
 | f g => rfl
theorem b8.au {s ah : ae} {x : aq} (h : b8 (x.use s) ah s) : b8 (au s x).R ah s := h.sub aq.mx
theorem w8 {s ah : ae} {x : Option aq} (h : b8 (tq s x) ah s) : x.map (au ah) = x.map (au s) := by
 cases x with
 | none => rfl
 | some x => simp only [Option.map_some]; rw [aq.dh h]
theorem aq.tr {s ah : ae} : ∀ {xs : List aq}, b8 (aq.iX s xs) ah s → xs.map (au ah) = xs.map (au s)
 | [], _ => rfl
 | x :: xs, h => by
   simp only [List.map_cons]
   rw [aq.dh (h.left), aq.tr (h.right)]
theorem aq.ts {s ah : ae} : ∀ {ps : List (Nat × aq)}, b8 (aq.iX s (ps.map (·.2))) ah s → (ps.map fun p => (p.1, au ah p.2)) = ps.map fun p => (p.1, au s p.2)
 | [], _ => rfl
 | x :: xs, h => by
   simp only [List.map_cons] at h ⊢
   rw [aq.dh (h.left), aq.ts (h.right)]
theorem aq.q_ {s : ae} : ∀ {xs : List aq}, ∀ u ∈ j.cE (xs.map (au s)), u ∈ aq.iX s xs
 | [], u, h => by simp [j.cE] at h
 | x :: xs, u, h => by
   simp only [List.map_cons, j.cE, List.mem_append] at h
   simp only [aq.iX, List.mem_append]
   exact h.imp (aq.mx u) (aq.q_ u)
section
variable {C : bl} {s ah : ae} {x y i : j} {T A B : TypeId}
theorem tt (h : b8 x.R ah s) : loc ah x = loc s x := by
 cases x <;> first
  | rfl
  | (simp only [loc]; rw [h _ (by simp [j.R])])
theorem tu {z : Nat} {q : List Nat} (h : loc s x = some (z, q)) : z ∈ x.R := by
 cases x with
 | h y p =>
   simp only [loc] at h
   split at h
   ·simp only [Option.some.injEq, Prod.mk.injEq] at h; simp [j.R, h.1]
   ·cases h
 | al y p =>
   simp only [loc] at h
   split at h
   ·simp only [Option.some.injEq, Prod.mk.injEq] at h; simp [j.R, h.1]
   ·cases h
 | _ => simp [loc] at h
theorem Ca (h : b8 x.R ah s) : cH C ah T x = cH C s T x := by
 have aI := tt h
 unfold cH
 split
 ·rfl
 ·rw [h _ (by simp [j.R])]
 ·rw [aI]
  split
  ·rename_i e
   rw [h _ (tu e)]
  ·rfl
theorem Cb {k : Nat} (h : b8 x.R ah s) : dt C ah T x k = dt C s T x k := by
 have aI := tt h
 unfold dt
 split
 ·split
  ·split
   ·split
    ·rfl
    ·rw [h _ (by simp [j.R])]
    ·rw [aI]
     split
     ·rename_i e
      rw [h _ (tu e)]
     ·rfl
   ·rfl
  ·rfl
 ·rfl
theorem Cc (h : b8 x.R ah s) : dm C ah T x i = dm C s T x i := by
 cases x <;> first
  | rfl
  | (simp only [dm]; rw [h _ (by simp [j.R])])
theorem Cd (h : b8 x.R ah s) : hB C ah T x = hB C s T x := by
 unfold hB
 cases (C.T T).k <;> cases x <;> first
  | rfl
  | (simp only; rw [h _ (by simp [j.R])])
theorem Ce (h : b8 x.R ah s) : dg C ah A B x = dg C s A B x := by
 unfold dg
 cases (C.T B).k <;> cases x <;> first
  | rfl
  | (simp only; rw [h _ (by simp [j.R])])
theorem Cf (h : b8 x.R ah s) : gR ah x = gR s x := by
 cases x <;> first
  | rfl
  | (simp only [gR]; rw [h _ (by simp [j.R])])
theorem Cg (h : b8 x.R ah s) : gS ah x = gS s x := by
 cases x <;> first
  | rfl
  | (simp only [gS]; rw [h _ (by simp [j.R])])
theorem Ch {op : BinOp} (h : b8 x.R ah s) : bW C ah op T x y = bW C s op T x y := by
 have U := Cf h
 have aa := Cg h
 unfold bW
 split <;> first | rfl | simp only [U, aa]
theorem Ci (h : b8 x.R ah s) : dN ah x = dN s x := by
 cases x <;> first
  | rfl
  | (simp only [dN]; rw [h _ (by simp [j.R])])
theorem Cj {k y : Nat} {q : List Nat} (h : hA C s T x k = some (.h y q)) : x.R = [y] := by
 unfold hA at h
 split at h <;> try (cases h; done)
 split at h <;> try (cases h; done)
 split at h
 ·split at h <;> try (cases h; done)
  split at h
  ·rename_i af
   simp only [Option.some.injEq] at h
   rw [h] at af
   exact absurd af.2.2.2 (by simp [j.tree])
  ·cases h
 ·split at h <;> try (cases h; done)
  split at h <;> try (cases h; done)
  split at h <;> try (cases h; done)
  rename_i d ab af
  by_cases al : d.plain = true
  ·simp only [al, if_true, Option.some.injEq] at h
   rw [h] at af
   exact absurd af.2.2.2 (by simp [j.tree])
  ·simp only [al, Option.some.injEq] at h
   injection h with U aa
   subst U; rfl
 ·cases h
theorem w9 {k : Nat} (h : b8 x.R ah s) : hA C ah T x k = hA C s T x k := by
 unfold hA
 split <;> try rfl
 split <;> try rfl
 cases x <;> first
  | rfl
  | (simp only []; rw [h _ (by simp [j.R])])
theorem Ck {k : Nat} (h : b8 x.R ah s) : ex ah x k = ex s x k := by
 cases x <;> first
  | rfl
  | (simp only [ex]; rw [h _ (by simp [j.R])])
theorem pK : ∀ (q : List Nat) (a d e : j), j.sub q a = some d → (d.plain = false ∨ q ≠ []) → (q = [] → e.R = []) → (j.put q e a).R = [] := by
 intro q a d e h al he
 cases q with
 | nil => rw [j.put]; exact he rfl
 | cons k q =>
   cases a <;> first
    | (simp [j.sub] at h; done)
    | skip
   all_goals
    unfold j.put
    repeat' split
    all_goals first | rfl | (simp_all; done)
end
def Loc {α : Type} (aV nC : List Nat) (f : ae → Option (α × ae)) (s : ae) (av : α) (s1 : ae) : Prop :=
 ∃ ms, s1 = b0 ms s ∧ (∀ m ∈ ms, m.x ∈ nC ∧ m.d.R = []) ∧ ∀ ah, b8 aV ah s → f ah = some (av, b0 ms ah)
theorem Loc.pure {α : Type} {aV nC : List Nat} {f : ae → Option (α × ae)} {s : ae} {av : α} (h : ∀ ah, b8 aV ah s → f ah = some (av, ah)) : Loc aV nC f s av s :=
 ⟨[], rfl, by simp, fun ah R => h ah R⟩
theorem Loc.mono {α : Type} {aV nC ra w_ : List Nat} {f : ae → Option (α × ae)} {s s1 : ae} {av : α} (h : Loc aV nC f s av s1) (j4 : ∀ u ∈ aV, u ∈ ra) (ld : ∀ u ∈ nC, u ∈ w_) : Loc ra w_ f s av s1 := by
 obtain ⟨ms, U, aa, aw⟩ := h
 exact ⟨ms, U, fun m hm => ⟨ld _ (aa m hm).1, (aa m hm).2⟩, fun ah R => aw ah (R.sub j4)⟩
section
variable {C : bl} {s s1 : ae} {x y d : j} {T A B : TypeId}
theorem kL (h : bE s x = some (d, s1)) : Loc x.R x.R (fun s => bE s x) s d s1 := by
 cases x with
 | h y q =>
   simp only [bE] at h
   split at h
   ·rename_i e he
    split at h
    ·cases h
    ·rename_i al
     simp only [Option.some.injEq, Prod.mk.injEq] at h
     obtain ⟨rfl, rfl⟩ := h
     have al : e.plain = false := by simpa using al
     refine ⟨[⟨.bd, y, j.put q e.bO (s y)⟩], pH _ _ _, ?_, ?_⟩
     ·intro m hm
      simp only [List.mem_singleton] at hm; subst hm
      refine ⟨by simp [j.R], pK q _ _ _ he (.inl al) fun bR => ?_⟩
      subst bR
      cases e <;> first | (simp [j.plain] at al; done) | rfl
     ·intro ah R
      have aC : ah y = s y := R y (by simp [j.R])
      simp only [bE, aC, he, al]
      rw [← pH]; rfl
   ·cases h
 | al y q => simp [bE] at h
 | J y q => simp [bE] at h
 | fn f c => simp [bE] at h
 | hole => simp [bE] at h
 | _ =>
   simp only [bE, Option.some.injEq, Prod.mk.injEq] at h
   obtain ⟨rfl, rfl⟩ := h
   exact .pure fun ah _ => rfl
mutual
theorem xa (x : Nat) : ∀ a : j, ∀ u ∈ (bd x a).R, u ∈ a.R
 | .h y q, u, h => by
   simp only [bd] at h
   split at h
   ·split at h
    ·exact h
    ·simp [j.R] at h
   ·exact h
 | .al y q, u, h => by
   simp only [bd] at h
   split at h
   ·simp [j.R] at h
   ·exact h
 | .J y q, u, h => h
 | .fn f cap, u, h => by simp only [bd, j.R] at h ⊢; exact xb x cap u h
 | .hole, u, h => h
 | .bool _, u, h => h
 | .cO, u, h => h
 | .int _ _, u, h => h
 | .str _, u, h => h
 | .b7, u, h => h
 | .bB, u, h => h
 | .slice _, u, h => h
 | .aP _ _, u, h => h
 | .ref _, u, h => h
 | .bn _, u, h => h
 | .agg _, u, h => h
 | .tuple _, u, h => h
theorem xb (x : Nat) : ∀ ds : List j, ∀ u ∈ j.cE (eZ x ds), u ∈ j.cE ds
 | [], u, h => h
 | d :: ds, u, h => by
   simp only [eZ, j.cE, List.mem_append] at h ⊢
   exact h.imp (xa x d u) (xb x ds u)
end
theorem tv (o : Option Nat) (a : j) : ∀ u ∈ (ia o a).R, u ∈ a.R := by
 intro u h
 cases o with
 | none => exact h
 | some x => exact xa x a u h
theorem xc : ∀ (os : List (Option Nat)) (a : j), ∀ u ∈ (iT os a).R, u ∈ a.R := by
 intro os
 induction os with
 | nil => intro a u h; exact h
 | cons o os ih => intro a u h; exact tv o a u (ih (ia o a) u h)
theorem xd {place : Nat → Option (Nat × Nat)} : ∀ {ps : List (Nat × j)} {s s1 : ae} {dO ds : List j} {os : List (Option Nat)}, iU place s dO os ps = some (ds, s1) →
  Loc (j.cE (ps.map (·.2))) (j.cE (ps.map (·.2))) (fun s => iU place s dO os ps) s ds s1 := by
 intro ps
 induction ps with
 | nil =>
   intro s s1 dO ds os h
   simp only [iU, Option.some.injEq, Prod.mk.injEq] at h
   obtain ⟨rfl, rfl⟩ := h
   exact .pure fun ah _ => rfl
 | cons p ps ih =>
   intro s s1 dO ds os h
   obtain ⟨k, a⟩ := p
   simp only [iU] at h
   split at h
   ·rename_i d s2 off n z aG ej a1
    split at h
    ·cases h
    ·rename_i aO hY
     split at h
     ·rename_i af
      obtain ⟨jw, rfl, aa, aw⟩ := kL aG
      obtain ⟨my, rfl, aX, bD⟩ := ih h
      refine ⟨jw ++ my, (hh _ _ _).symm, ?_, ?_⟩
      ·intro m hm
       simp only [List.map_cons, j.cE, List.mem_append] at hm ⊢
       rcases hm with hm | hm
       ·exact ⟨.inl (xc _ _ _ (aa m hm).1), (aa m hm).2⟩
       ·exact ⟨.inr (aX m hm).1, (aX m hm).2⟩
      ·intro ah R
       simp only [List.map_cons, j.cE] at R
       have aC := aw ah (R.left.sub (xc _ _))
       have aF := bD (b0 jw ah) (R.right.b0 jw)
       simp only at aC aF
       simp only [iU, aC, ej, a1, hh]
       rw [if_pos af]; exact aF
     ·cases h
   ·cases h
theorem Cl {ps : List (Nat × j)} {av : j} (h : df C s T ps = some (av, s1)) : Loc (j.cE (ps.map (·.2))) (j.cE (ps.map (·.2))) (fun s => df C s T ps) s av s1 := by
 unfold df at h
 split at h
 ·rename_i ad dO ai a1
  split at h
  ·rename_i af
   split at h
   ·rename_i ds s2 bb
    simp only [Option.some.injEq, Prod.mk.injEq] at h
    obtain ⟨rfl, rfl⟩ := h
    obtain ⟨ms, U, aa, aw⟩ := xd bb
    refine ⟨ms, U, aa, fun ah R => ?_⟩
    have := aw ah R
    simp only at this
    simp only [df, ai, a1, if_pos af, this]
   ·cases h
  ·cases h
 ·cases h
theorem Cm {n : Nat} {ps : List (Nat × j)} {av : j} (h : cR C s T n ps = some (av, s1)) : Loc (j.cE (ps.map (·.2))) (j.cE (ps.map (·.2))) (fun s => cR C s T n ps) s av s1 := by
 unfold cR at h
 split at h
 ·rename_i e ai
  split at h
  ·rename_i af
   split at h
   ·rename_i ds s2 bb
    simp only [Option.some.injEq, Prod.mk.injEq] at h
    obtain ⟨rfl, rfl⟩ := h
    obtain ⟨ms, U, aa, aw⟩ := xd bb
    refine ⟨ms, U, aa, fun ah R => ?_⟩
    have := aw ah R
    simp only at this
    simp only [cR, ai, if_pos af, this]
   ·cases h
  ·cases h
 ·cases h
theorem Cn {av : j} (h : da s x = some (av, s1)) : Loc x.R x.R (fun s => da s x) s av s1 := by
 unfold da at h
 split at h
 ·cases h
 ·rename_i d s2 hY aG
  simp only [Option.some.injEq, Prod.mk.injEq] at h
  obtain ⟨rfl, rfl⟩ := h
  obtain ⟨ms, U, aa, aw⟩ := kL aG
  refine ⟨ms, U, aa, fun ah R => ?_⟩
  have := aw ah R
  simp only at this
  simp only [da, this]
 ·cases h
theorem Co {av : j} (h : gQ s x = some (av, s1)) : Loc x.R [] (fun s => gQ s x) s av s1 := by
 unfold gQ at h
 split at h
 ·rename_i y q
  split at h
  ·rename_i ds ic
   split at h
   ·cases h
   ·rename_i pe
    simp only [Option.some.injEq, Prod.mk.injEq] at h
    obtain ⟨rfl, rfl⟩ := h
    refine .pure fun ah R => ?_
    have e : ah y = s y := R y (by simp [j.R])
    simp only [gQ, e, ic, if_neg pe]
  ·cases h
 ·split at h
  ·rename_i af
   simp only [Option.some.injEq, Prod.mk.injEq] at h
   obtain ⟨rfl, rfl⟩ := h
   exact .pure fun ah R => by simp only [gQ, af, if_true]
  ·cases h
 ·cases h
theorem Cp {s2 : ae} (h : dC C s T x y = some s2) : Loc (x.R ++ y.R) (x.R ++ y.R) (fun s => (dC C s T x y).map fun s1 => (j.hole, s1)) s .hole s2 := by
 unfold dC at h
 split at h
 ·rename_i d s1 z q aG aI
  obtain ⟨ms, U, aa, aw⟩ := kL aG
  have a1 := tu aI
  have bR : q ≠ [] := by
   cases x with
   | h y p =>
     simp only [loc] at aI
     split at aI
     ·simp only [Option.some.injEq, Prod.mk.injEq] at aI; simp [← aI.2]
     ·cases aI
   | al y p =>
     simp only [loc] at aI
     split at aI
     ·rename_i jo
      simp only [Option.some.injEq, Prod.mk.injEq] at aI
      obtain ⟨rfl, rfl⟩ := aI
      intro e; subst e; simp [j.cY] at jo
     ·cases aI
   | _ => simp [loc] at aI
  split at h
  ·cases h
  ·rename_i aO hY
   split at h
   ·rename_i d0 hR
    split at h
    ·rename_i af
     simp only [Option.some.injEq] at h; subst h
     refine ⟨ms ++ [⟨.bd, z, j.put q d (s z)⟩], ?_, ?_, ?_⟩
     ·rw [hh, ← U, pH]
     ·intro m hm
      simp only [List.mem_append, List.mem_singleton] at hm ⊢
      rcases hm with hm | rfl
      ·exact ⟨.inr (aa m hm).1, (aa m hm).2⟩
      ·exact ⟨.inl a1, pK q _ _ _ hR (.inr bR) fun e => (bR e).elim⟩
     ·intro ah R
      have aC := aw ah R.right
      simp only at aC
      simp only [dC, aC, tt R.left, aI, R.left z a1, hR]
      cases d <;> first | (simp only [if_pos af, Option.map_some, hh, pH]; done) | exact (hY _ rfl).elim
    ·cases h
   ·cases h
 ·cases h
theorem Cq {bV ax : Option j} {av : j} (h : cU C s T x bV ax = some (av, s1)) : Loc x.R x.R (fun s => cU C s T x bV ax) s av s1 := by
 cases x with
 | h y q =>
   unfold cU at h
   split at h <;> first | (cases h; done) | skip
   all_goals (rename_i aj; try cases aj)
   rename_i e ai
   split at h
   ·rename_i sz xs cT
    split at h
    ·rename_i b iM iN
     split at h
     ·rename_i af
      split at h
      ·rename_i d s2 aG
       simp only [Option.some.injEq, Prod.mk.injEq] at h
       obtain ⟨rfl, rfl⟩ := h
       obtain ⟨ms, U, aa, aw⟩ := kL aG
       refine ⟨ms, U, aa, fun ah R => ?_⟩
       have := aw ah R
       simp only at this
       have aC : ah y = s y := R y (by simp [j.R])
       simp only [cU, ai, aC, cT, iM, iN, if_pos af, this]
      ·cases h
     ·cases h
    ·cases h
   ·cases h
 | _ =>
   have jx : s1 = s := by
    unfold cU at h
    repeat' split at h
    all_goals first | (cases h; done) | (simp only [Option.some.injEq, Prod.mk.injEq] at h; exact h.2.symm) | simp_all
   subst jx
   refine .pure fun ah _ => ?_
   unfold cU at h ⊢
   repeat' split at h
   all_goals first
    | (cases h; done)
    | (simp only [Option.some.injEq, Prod.mk.injEq] at h
       obtain ⟨rfl, _⟩ := h
       simp_all)
def nD (C : bl) (e : TypeId) (s : ae) : j → Option (j × ae)
 | .bB => some (j.aP (C.T e).sz [], s)
 | .h a q => bE s (.h a q)
 | _ => none
def kM (s1 : ae) : j → Option (List j × ae)
 | .bB => some ([], s1)
 | .slice bF => some (bF, s1)
 | .str l => some (l.map fH, s1)
 | .h a q => match bE s1 (.h a q) with
   | some (.aP _ bF, s2) => some (bF, s2)
   | _ => none
 | _ => none
theorem xe (C : bl) (s : ae) (T aV : TypeId) (x y : j) : hT C s T aV x y = (match (C.T T).k with
 | .slice e => if (C.T e).ok = true ∧ (C.T e).zero.wd = (C.T e).sz ∧ (flat (C.T e).zero).isSome = true ∧ s_ C e aV = true then
   match nD C e s x with
   | some (.aP sz xs, s1) => if sz = (C.T e).sz then
     match kM s1 (ia x.owner y) with
     | some (bF, s2) => if (∀ d ∈ bF, d.wd = (C.T e).sz) ∧ (xs.length + bF.length) * (C.T e).bytes ≤ 140737488355328 ∧ xs.length + bF.length ≤ 9223372036854775807 then some (.aP sz (xs ++ bF), s2) else none
     | none => none
     else none
   | _ => none
   else none
 | _ => none) := by
 unfold hT
 generalize ia x.owner y = gy
 cases (C.T T).k <;> first
  | rfl
  | (cases x <;> cases gy <;> rfl)
theorem Cr {e : TypeId} {d : j} (U : nD C e s x = some (d, s1)) : Loc x.R x.R (fun s => nD C e s x) s d s1 := by
 cases x with
 | bB =>
   simp only [nD, Option.some.injEq, Prod.mk.injEq] at U
   obtain ⟨U, rfl⟩ := U
   exact .pure fun ah _ => by simp only [nD, U]
 | h a q => exact kL U
 | _ => simp [nD] at U
theorem Cs {bF : List j} (aa : kM s y = some (bF, s1)) : Loc y.R y.R (fun s => kM s y) s bF s1 := by
 cases y with
 | bB =>
   simp only [kM, Option.some.injEq, Prod.mk.injEq] at aa
   obtain ⟨rfl, rfl⟩ := aa
   exact .pure fun ah _ => rfl
 | slice bF =>
   simp only [kM, Option.some.injEq, Prod.mk.injEq] at aa
   obtain ⟨rfl, rfl⟩ := aa
   exact .pure fun ah _ => rfl
 | str l =>
   simp only [kM, Option.some.injEq, Prod.mk.injEq] at aa
   obtain ⟨rfl, rfl⟩ := aa
   exact .pure fun ah _ => rfl
 | h a q =>
   simp only [kM] at aa
   split at aa
   ·rename_i BE LK LL aG
    simp only [Option.some.injEq, Prod.mk.injEq] at aa
    obtain ⟨rfl, rfl⟩ := aa
    obtain ⟨ms, g1, g2, g3⟩ := kL aG
    refine ⟨ms, g1, g2, fun ah R => ?_⟩
    have := g3 ah R
    simp only at this
    simp only [kM, this]
   ·cases aa
 | _ => simp [kM] at aa
theorem Ct {av : j} (h : hT C s T A x y = some (av, s1)) : Loc (x.R ++ y.R) (x.R ++ y.R) (fun s => hT C s T A x y) s av s1 := by
 rw [xe] at h
 split at h
 ·rename_i e ai
  split at h
  ·rename_i af
   split at h
   ·rename_i sz xs s2 U
    split at h
    ·rename_i cB
     split at h
     ·rename_i bF dD aa
      split at h
      ·rename_i ma
       simp only [Option.some.injEq, Prod.mk.injEq] at h
       obtain ⟨rfl, rfl⟩ := h
       obtain ⟨jw, rfl, a2, a3⟩ := Cr U
       obtain ⟨my, rfl, fs, j5⟩ := (Cs aa).mono (tv _ _) (tv _ _)
       refine ⟨jw ++ my, (hh _ _ _).symm, ?_, ?_⟩
       ·intro m hm
        simp only [List.mem_append] at hm ⊢
        rcases hm with hm | hm
        ·exact ⟨.inl (a2 m hm).1, (a2 m hm).2⟩
        ·exact ⟨.inr (fs m hm).1, (fs m hm).2⟩
       ·intro ah R
        have aC := a3 ah R.left
        have aF := j5 (b0 jw ah) (R.right.b0 jw)
        simp only at aC aF
        simp only [xe, ai, if_pos af, aC, if_pos cB, aF, if_pos ma, hh]
      ·cases h
     ·cases h
    ·cases h
   ·cases h
  ·cases h
 ·cases h
theorem xf {aQ : du} {av : j} (h : aR C s aQ = some (av, s1)) : Loc (use s aQ) (bX s aQ) (fun s => aR C s aQ) s av s1 := by
 cases aQ with
 | shr aQ => simp [aR] at h
 | hV f args u x => simp [aR] at h
 | hW f args L => simp [aR] at h
 | kK x =>
   simp only [aR] at h
   unfold j8 at h
   split at h
   ·rename_i y q aj
    obtain ⟨ms, U, aa, aw⟩ := kL h
    refine ⟨ms, U, by simpa only [bX, aj] using aa, fun ah R => ?_⟩
    have e := aq.dh (x := x) R
    have aF := aw ah (by rw [← aj]; exact b8.au R)
    simp only [aR, e, aj, j8]
    exact aF
   ·rename_i xg
    simp only [Option.some.injEq, Prod.mk.injEq] at h
    obtain ⟨rfl, rfl⟩ := h
    refine .pure fun ah R => ?_
    have e := aq.dh (x := x) R
    simp only [aR, e, j8]
 | lq x =>
   simp only [aR, Option.some.injEq, Prod.mk.injEq] at h
   obtain ⟨rfl, rfl⟩ := h
   exact .pure fun ah R => by simp only [aR, aq.dh (x := x) R]
 | gQ T x =>
   obtain ⟨ms, U, aa, aw⟩ := Co h
   refine ⟨ms, U, aa, fun ah R => ?_⟩
   simp only [aR, aq.dh (x := x) R]
   exact aw ah (b8.au R)
 | iS T aV x y =>
   simp only [aR, Option.map_eq_some_iff, Prod.mk.injEq] at h
   obtain ⟨d, ab, rfl, rfl⟩ := h
   exact .pure fun ah R => by
    simp only [use] at R
    simp only [aR, aq.dh (x := x) R.left, aq.dh (x := y) R.right, ab, Option.map_some]
 | bad => simp [aR] at h
 | j7 e_ x y =>
   simp only [aR, Option.map_eq_some_iff, Prod.mk.injEq] at h
   obtain ⟨d, ab, rfl, rfl⟩ := h
   exact .pure fun ah R => by
    simp only [use] at R
    simp only [aR, aq.dh (x := x) R.left, aq.dh (x := y) R.right, ab, Option.map_some]
 | cap T x =>
   simp only [aR] at h
   split at h
   ·rename_i e ai aj
    simp only [Option.some.injEq, Prod.mk.injEq] at h
    obtain ⟨rfl, rfl⟩ := h
    exact .pure fun ah R => by simp only [aR, aq.dh (x := x) R, ai, aj]
   ·cases h
 | cK x =>
   simp only [aR, Option.some.injEq, Prod.mk.injEq] at h
   obtain ⟨rfl, rfl⟩ := h
   exact .pure fun ah R => by simp only [aR, aq.dh (x := x) R]
 | eo x =>
   simp only [aR] at h
   split at h
   ·rename_i y q aj
    obtain ⟨ms, U, aa, aw⟩ := kL h
    refine ⟨ms, U, by simpa only [bX, aj] using aa, fun ah R => ?_⟩
    have e := aq.dh (x := x) R
    have aF := aw ah (by rw [← aj]; exact b8.au R)
    simp only [aR, e, aj]
    exact aF
   ·rename_i xg
    simp only [Option.some.injEq, Prod.mk.injEq] at h
    obtain ⟨rfl, rfl⟩ := h
    refine .pure fun ah R => ?_
    have e := aq.dh (x := x) R
    simp only [aR, e]
 | pick c a b =>
   simp only [aR] at h
   split at h
   ·rename_i c9 J
    simp only [Option.some.injEq, Prod.mk.injEq] at h
    obtain ⟨rfl, rfl⟩ := h
    refine .pure fun ah R => ?_
    simp only [use] at R
    simp only [aR, aq.dh (x := c) R.left, aq.dh (x := a) R.right.left, aq.dh (x := b) R.right.right, J]
   ·cases h
 | ek T =>
   simp only [aR, Option.map_eq_some_iff, Prod.mk.injEq] at h
   obtain ⟨d, ab, rfl, rfl⟩ := h
   exact .pure fun ah R => by simp only [aR, ab, Option.map_some]
 | da T x =>
   obtain ⟨ms, U, aa, aw⟩ := Cn h
   refine ⟨ms, U, aa, fun ah R => ?_⟩
   simp only [aR, aq.dh (x := x) R]
   exact aw ah (b8.au R)
 | df T ps =>
   obtain ⟨ms, U, aa, aw⟩ := Cl h
   simp only [List.map_map, Function.comp_def] at aa aw
   refine ⟨ms, U, aa, fun ah R => ?_⟩
   simp only [aR, aq.ts (ps := ps) R]
   refine aw ah (R.sub fun u hu => ?_)
   simp only [use]
   exact aq.q_ u (by simpa [List.map_map, Function.comp_def] using hu)
 | cR T n ps =>
   obtain ⟨ms, U, aa, aw⟩ := Cm h
   simp only [List.map_map, Function.comp_def] at aa aw
   refine ⟨ms, U, aa, fun ah R => ?_⟩
   simp only [aR, aq.ts (ps := ps) R]
   refine aw ah (R.sub fun u hu => ?_)
   simp only [use]
   exact aq.q_ u (by simpa [List.map_map, Function.comp_def] using hu)
 | cH T x =>
   simp only [aR, Option.map_eq_some_iff, Prod.mk.injEq] at h
   obtain ⟨d, ab, rfl, rfl⟩ := h
   exact .pure fun ah R => by simp only [aR, aq.dh (x := x) R, Ca (b8.au R), ab, Option.map_some]
 | dC T x y =>
   simp only [aR, Option.map_eq_some_iff, Prod.mk.injEq] at h
   obtain ⟨s2, ab, rfl, rfl⟩ := h
   obtain ⟨ms, U, aa, aw⟩ := Cp ab
   refine ⟨ms, U, aa, fun ah R => ?_⟩
   simp only [use] at R
   simp only [aR, aq.dh (x := x) R.left, aq.dh (x := y) R.right]
   exact aw ah (R.sub fun u hu => by simp only [List.mem_append] at hu ⊢; exact hu.imp (aq.mx u) (aq.mx u))
 | dN x =>
   simp only [aR, Option.map_eq_some_iff, Prod.mk.injEq] at h
   obtain ⟨d, ab, rfl, rfl⟩ := h
   exact .pure fun ah R => by simp only [aR, aq.dh (x := x) R, Ci (b8.au R), ab, Option.map_some]
 | bW op T x y =>
   simp only [aR, Option.map_eq_some_iff, Prod.mk.injEq] at h
   obtain ⟨d, ab, rfl, rfl⟩ := h
   refine .pure fun ah R => ?_
   simp only [use] at R
   simp only [aR, aq.dh (x := x) R.left, aq.dh (x := y) R.right, Ch (b8.au R.left), ab, Option.map_some]
 | un op x =>
   simp only [aR, Option.map_eq_some_iff, Prod.mk.injEq] at h
   obtain ⟨d, ab, rfl, rfl⟩ := h
   exact .pure fun ah R => by simp only [aR, aq.dh (x := x) R, ab, Option.map_some]
 | dg A B x =>
   simp only [aR, Option.map_eq_some_iff, Prod.mk.injEq] at h
   obtain ⟨d, ab, rfl, rfl⟩ := h
   exact .pure fun ah R => by simp only [aR, aq.dh (x := x) R, Ce (b8.au R), ab, Option.map_some]
 | gp f cs =>
   simp only [aR, Option.some.injEq, Prod.mk.injEq] at h
   obtain ⟨rfl, rfl⟩ := h
   exact .pure fun ah R => by simp only [aR, aq.tr (xs := cs) R]
 | en T l c =>
   simp only [aR, Option.map_eq_some_iff, Prod.mk.injEq] at h
   obtain ⟨d, ab, rfl, rfl⟩ := h
   refine .pure fun ah R => ?_
   simp only [use] at R
   simp only [aR, aq.dh (x := l) R.left, aq.dh (x := c) R.right, ab, Option.map_some]
 | cU T x bV ax =>
   simp only [aR] at h
   obtain ⟨ms, U, aa, aw⟩ := Cq h
   refine ⟨ms, U, aa, fun ah R => ?_⟩
   simp only [use] at R
   simp only [aR, aq.dh (x := x) R.left, w8 R.right.left, w8 R.right.right]
   exact aw ah (b8.au R.left)
 | dt T x k =>
   simp only [aR, Option.map_eq_some_iff, Prod.mk.injEq] at h
   obtain ⟨d, ab, rfl, rfl⟩ := h
   exact .pure fun ah R => by simp only [aR, aq.dh (x := x) R, Cb (b8.au R), ab, Option.map_some]
 | dm T x i =>
   simp only [aR, Option.map_eq_some_iff, Prod.mk.injEq] at h
   obtain ⟨d, ab, rfl, rfl⟩ := h
   refine .pure fun ah R => ?_
   simp only [use] at R
   simp only [aR, aq.dh (x := x) R.left, aq.dh (x := i) R.right, Cc (b8.au R.left), ab, Option.map_some]
 | idx T x i =>
   simp only [aR, Option.map_eq_some_iff, Prod.mk.injEq] at h
   obtain ⟨d, ab, rfl, rfl⟩ := h
   refine .pure fun ah R => ?_
   simp only [use] at R
   simp only [aR, aq.dh (x := x) R.left, aq.dh (x := i) R.right, ab, Option.map_some]
 | ex x k =>
   simp only [aR, Option.map_eq_some_iff, Prod.mk.injEq] at h
   obtain ⟨d, ab, rfl, rfl⟩ := h
   exact .pure fun ah R => by simp only [aR, aq.dh (x := x) R, Ck (b8.au R), ab, Option.map_some]
 | hA T x k =>
   simp only [aR, Option.bind_eq_some_iff] at h
   obtain ⟨d, ab, h⟩ := h
   unfold j8 at h
   split at h
   ·rename_i y q
    have aj := Cj ab
    obtain ⟨ms, U, aa, aw⟩ := kL h
    refine ⟨ms, U, by simpa only [bX, aj, j.R] using aa, fun ah R => ?_⟩
    have aF := aw ah (by rw [show (j.h y q).R = (au s x).R from aj.symm]; exact b8.au R)
    simp only [aR, aq.dh (x := x) R, w9 (b8.au R), ab, Option.bind_some, j8]
    exact aF
   ·rename_i xg
    simp only [Option.some.injEq, Prod.mk.injEq] at h
    obtain ⟨rfl, rfl⟩ := h
    refine .pure fun ah R => ?_
    simp only [aR, aq.dh (x := x) R, w9 (b8.au R), ab, Option.bind_some, j8]
 | call f args => simp [aR] at h
 | len T x =>
   simp only [aR, Option.map_eq_some_iff, Prod.mk.injEq] at h
   obtain ⟨d, ab, rfl, rfl⟩ := h
   exact .pure fun ah R => by simp only [aR, aq.dh (x := x) R, Cd (b8.au R), ab, Option.map_some]
 | app T aV x y =>
   obtain ⟨ms, U, aa, aw⟩ := Ct h
   refine ⟨ms, U, aa, fun ah R => ?_⟩
   simp only [use] at R
   simp only [aR, aq.dh (x := x) R.left, aq.dh (x := y) R.right]
   exact aw ah (R.sub fun u hu => by simp only [List.mem_append] at hu ⊢; exact hu.imp (aq.mx u) (aq.mx u))
end
def j.one : j → Bool
 | .agg _ => false
 | .tuple _ => false
 | _ => true
mutual
def view (s : ae) : j → Option j
 | .h x q => match j.sub q (s x) with
   | some d => (match d with | .tuple _ => none | .b_ _ => none | d => if d.plain then none else some d.share)
   | none => none
 | .al x q => if j.cY q (s x) then (match j.sub q (s x) with
   | some d => (match d with | .tuple _ => none | d => some (.ref d.share))
   | none => none) else none
 | .J _ _ => none
 | .fn f cap => (views s cap).map (.fn f)
 | .hole => none
 | d => some d
def views (s : ae) : List j → Option (List j)
 | [] => some []
 | d :: ds => match view s d, views s ds with
   | some a, some b => some (a :: b)
   | _, _ => none
end
mutual
theorem tw : ∀ d : j, d.share.plain = true
 | .hole => rfl
 | .bool _ => rfl
 | .cO => rfl
 | .int _ _ => rfl
 | .str _ => rfl
 | .b7 => rfl
 | .bB => rfl
 | .slice _ => rfl
 | .aP _ _ => rfl
 | .ref _ => rfl
 | .bn _ => rfl
 | .agg ad => by simp only [j.share, j.plain]; exact tx ad
 | .tuple ad => by simp only [j.share, j.plain]; exact tx ad
 | .fn _ _ => rfl
 | .h _ _ => rfl
 | .al _ _ => rfl
 | .J _ _ => rfl
 | .b_ _ => rfl
theorem tx : ∀ ds : List j, j.dd (j.shares ds) = true
 | [] => rfl
 | d :: ds => by simp only [j.shares, j.dd]; rw [tw d, tx ds]; rfl
end
theorem Cu {s : ae} {a d : j} (h : a.plain = true) (he : view s a = some d) : d.plain = true := by
 cases a with
 | h x q =>
   simp only [view] at he
   split at he
   ·rename_i e cT
    cases e <;> simp only at he <;> first
     | (cases he; done)
     | (split at he
        ·cases he
        ·simp only [Option.some.injEq] at he
         subst he; exact tw _)
   ·cases he
 | al x q =>
   simp only [view] at he
   split at he
   ·split at he
    ·rename_i e cT
     cases e <;> simp only at he <;> first
      | (cases he; done)
      | (simp only [Option.some.injEq] at he; subst he; rfl)
    ·cases he
   ·cases he
 | fn f cap =>
   simp only [view, Option.map_eq_some_iff] at he
   obtain ⟨ds, _, rfl⟩ := he
   rfl
 | hole => simp [view] at he
 | J y q => simp [view] at he
 | _ => simp only [view, Option.some.injEq] at he; subst he; exact h
theorem tz {d : j} {v : Value} (U : ∀ vs, d ≠ .tuple vs) (h : cp d v) : cp d.share v := by
 cases d <;> first | exact h | exact (U _ rfl).elim
theorem Cv (w : World) : ∀ (q : List Nat) (av d aO : j) (cs bH : List Value) (a bK : Option (Nat × Nat)), j.sub q av = some d → aO.wd = d.wd → bU w q av cs a = some (d, bH, bK) →
  bU w q (j.put q aO av) cs a = some (aO, bH, bK) := by
 intro q
 induction q with
 | nil =>
   intro av d aO cs bH a bK ab hw h
   simp only [bU, Option.some.injEq, Prod.mk.injEq] at h
   obtain ⟨rfl, rfl, rfl⟩ := h
   simp only [j.put, bU]
 | cons k q ih =>
   intro av d aO cs bH a bK ab hw h
   cases av with
   | agg ad =>
     simp only [j.sub] at ab
     split at ab
     ·rename_i x aj
      have ai : k < ad.length := (List.getElem?_eq_some_iff.1 aj).1
      simp only [bU, aj] at h
      simp only [j.put, aj, bU]
      rw [List.getElem?_set_self ai]
      simp only [List.take_set_of_le (Nat.le_refl k), j.nf q x d aO ab hw]
      exact ih _ _ _ _ _ _ _ ab hw h
     ·cases ab
   | tuple ad =>
     simp only [j.sub] at ab
     split at ab
     ·rename_i x aj
      have ai : k < ad.length := (List.getElem?_eq_some_iff.1 aj).1
      simp only [bU, aj] at h
      simp only [j.put, aj, bU]
      rw [List.getElem?_set_self ai]
      simp only [List.take_set_of_le (Nat.le_refl k), j.nf q x d aO ab hw]
      exact ih _ _ _ _ _ _ _ ab hw h
     ·cases ab
   | aP sz ad =>
     simp only [j.sub] at ab
     split at ab
     ·rename_i x aj
      have ai : k < ad.length := (List.getElem?_eq_some_iff.1 aj).1
      have hg : (ad.set k (j.put q aO x))[k]? = some (j.put q aO x) := List.getElem?_set_self ai
      simp only [j.put, aj]
      rw [bU.eq_def] at h ⊢
      simp only [aj] at h
      simp only
      rw [hg]
      split at h
      ·rename_i aC
       simp only [Option.some.injEq] at aC; subst aC
       exact ih _ _ _ _ _ _ _ ab hw h
      ·cases h
     ·cases ab
   | bn x =>
     cases k with
     | zero =>
       simp only [j.sub] at ab
       rw [bU.eq_def] at h ⊢
       simp only at h
       simp only [j.put]
       split at h
       ·rw [j.nf q x d aO ab hw]
        exact ih _ _ _ _ _ _ _ ab hw h
       ·cases h
     | succ k => simp [j.sub] at ab
   | _ => simp [j.sub] at ab
section
variable {w0 w an : World} {F0 X F Fc : Nat → Prop} {S : Nat → Nat → Prop} {s ah : ae} {ak gf : Nat → Value}
theorem Cw (h : aZ w0 F0 X F S s ak w) (aK : ∀ b, F b → Fc b) : ∀ n,
  (∀ (a : j) (v : Value) (d : j), SizeOf.sizeOf a ≤ n → (∀ t ∈ a.R, ∀ b, S t b → Fc b) → view s a = some d → ar w F s ak a v (fun _ => False) → ar w Fc ah gf d v (fun _ => False)) ∧
  (∀ (as : List j) (vs : List Value) (ds : List j), SizeOf.sizeOf as ≤ n → (∀ t ∈ j.cE as, ∀ b, S t b → Fc b) → views s as = some ds → ck w F s ak as vs → ck w Fc ah gf ds vs) := by
 intro n
 induction n with
 | zero => exact ⟨fun a _ _ a1 => by cases a <;> simp at a1 <;> omega, fun as _ _ a1 => by cases as <;> simp at a1 <;> omega⟩
 | succ n ih =>
   refine ⟨fun a v d a1 aU he aA => ?_, fun as vs ds a1 aU he aA => ?_⟩
   ·cases a with
    | h x q =>
      simp only [view] at he
      split at he
      ·rename_i e cT
       have key : (∀ ad, e ≠ .tuple ad) ∧ e.plain = false ∧ d = e.share ∧ ∀ o, e ≠ .b_ o := by
        cases e <;> simp only at he <;> first
         | (cases he; done)
         | (split at he
            ·cases he
            ·rename_i ej
             simp only [Option.some.injEq] at he
             exact ⟨(fun _ h => by cases h), by simpa using ej, he.symm, fun _ h => by cases h⟩)
       obtain ⟨hY, ej, rfl, hd⟩ := key
       rw [ar] at aA
       obtain ⟨bH, bK, g1, g2, g3⟩ := aA e cT ej
       have aG := eT cT (.inl ej)
       have aj := (ar.bt aG).1 (h.cb x)
       obtain ⟨di, a2, cG, dV, k0, ba, bg, cy, b2, cM⟩ := ctx q (s x) (bj (ak x)) (S x) none e aj.2 cT
       rw [g1] at k0
       simp only [Option.some.injEq, Prod.mk.injEq, true_and] at k0
       obtain ⟨rfl, rfl⟩ := k0
       have sQ : e.share.tree = true := by cases e <;> first | rfl | (simp [j.plain] at ej; done) | exact (hd _ rfl).elim
       have aB := ag.shared aK e bH dV (fun b J => aU x (by simp [j.R]) b (bg b J)) b2
       exact (ar.bt sQ).2 ⟨tz hY g3, by rw [g2]; exact aB⟩
      ·cases he
    | al x q =>
      simp only [view] at he
      split at he
      ·rename_i jo
       split at he
       ·rename_i e cT
        have key : (∀ ad, e ≠ .tuple ad) ∧ d = .ref e.share := by
         cases e <;> simp only at he <;> first
          | (cases he; done)
          | (simp only [Option.some.injEq] at he; exact ⟨(fun _ h => by cases h), he.symm⟩)
        obtain ⟨hY, rfl⟩ := key
        rw [ar] at aA
        obtain ⟨bH, b, o, g1, rfl⟩ := aA e cT jo
        have aG := eT cT (.inr jo)
        have aj := (ar.bt aG).1 (h.cb x)
        obtain ⟨di, a2, cG, dV, k0, ba, bg, cy, b2, cM⟩ := ctx q (s x) (bj (ak x)) (S x) none e aj.2 cT
        rw [g1] at k0
        simp only [Option.some.injEq, Prod.mk.injEq, true_and] at k0
        obtain ⟨rfl, rfl⟩ := k0
        have aB := ag.shared aK e bH dV (fun b J => aU x (by simp [j.R]) b (bg b J)) b2
        rcases cM with ⟨l, r, _, aF, _⟩ | ⟨c9, cur, ty, fr, l, r, aC, aF, a6, bQ, bT, _⟩
        ·simp at aF
        ·simp only [Option.some.injEq, Prod.mk.injEq] at aC
         obtain ⟨rfl, rfl⟩ := aC
         refine (ar.bt rfl).2 ⟨rfl, ?_⟩
         rw [ag]
         refine ⟨b, l.length, bH, rfl, aU x (by simp [j.R]) b (ba b aF), ?_, aB⟩
         intro ay c bx
         simp only [World.cell?, a6]
         have af : cur[l.length + ay]? = some c := by
          rw [← Array.getElem?_toList, bT, List.getElem?_append_right (by omega), List.getElem?_append_left (by
           have := (List.getElem?_eq_some_iff.1 bx).1; omega)]
          rw [← bx]; congr 1; omega
         simpa using af
       ·cases he
      ·cases he
    | fn f cap =>
      simp only [view, Option.map_eq_some_iff] at he
      obtain ⟨ds, fz, rfl⟩ := he
      rw [ar] at aA
      obtain ⟨arr, rfl, af⟩ := aA
      rw [ar]
      exact ⟨arr, rfl, ih.2 cap _ _ (by simp at a1; omega) (by simpa [j.R] using aU) fz af⟩
    | hole => simp [view] at he
    | J y q => simp [view] at he
    | _ =>
      simp only [view, Option.some.injEq] at he; subst he
      have hv := (ar.bt rfl).1 aA
      exact (ar.bt rfl).2 ⟨hv.1, ag.mono aK _ _ _ _ (fun _ h => h) hv.2⟩
   ·cases as with
    | nil =>
      simp only [views, Option.some.injEq] at he; subst he
      rw [ck] at aA ⊢; exact aA
    | cons a as =>
      simp only [views] at he
      split at he
      ·rename_i d ds U aa
       simp only [Option.some.injEq] at he; subst he
       rw [ck] at aA ⊢
       obtain ⟨v, fE, rfl, g1, g2⟩ := aA
       simp at a1
       simp only [j.cE, List.mem_append] at aU
       exact ⟨v, fE, rfl, ih.1 a v d (by omega) (fun t aG => aU t (.inl aG)) U g1, ih.2 as fE ds (by omega) (fun t aG => aU t (.inr aG)) aa g2⟩
      ·cases he
theorem aZ.e5 (h : aZ w0 F0 X F S s ak w) {x : Nat} {q : List Nat} {d0 aO : j} {bH : List Value} {a : Option (Nat × Nat)} {Sn : Nat → Prop}
  (ab : j.sub q (s x) = some d0) (bb : bU w q (s x) (bj (ak x)) none = some (d0, bH, a)) (aa : ∀ vs, aO ≠ .tuple vs) (aG : q = [] → aO.tree = true ∧ cp aO (ak x))
  (aw : ∀ k p, q = k :: p → (s x).tree = true ∧ (∀ v, eY d0 v → eY aO v)) (hw : aO.wd = d0.wd)
  (aA : ag w F aO bH Sn) (cx : ∀ b, Sn b → b < w.heap.size) (aK : ∀ b, Sn b → ¬ F b) (aU : ∀ u b, Sn b → ¬ S u b) (bk : ∀ b, Sn b → X b ∨ w0.heap.size ≤ b) :
  aZ w0 F0 X F (ed S x (fun b => S x b ∨ Sn b)) (b4 (hb x s) x (j.put q aO (s x))) ak w := by
 have cC : b4 ak x (ak x) = ak := by funext u; simp only [b4]; split <;> simp_all
 have main : (j.put q aO (s x)).tree = true ∧ cp (j.put q aO (s x)) (ak x) ∧ ag w F (j.put q aO (s x)) (bj (ak x)) (fun b => S x b ∨ Sn b) := by
  cases q with
  | nil =>
    simp only [bU, Option.some.injEq, Prod.mk.injEq] at bb
    obtain ⟨aC, aF, a6⟩ := bb
    obtain ⟨g1, g2⟩ := aG rfl
    simp only [j.put]
    refine ⟨g1, ?_, ?_⟩
    ·exact g2
    ·rw [aF]; exact ag.mono (fun _ h => h) _ _ _ _ (fun b J => .inr J) aA
  | cons k p =>
    obtain ⟨g1, g2⟩ := aw k p rfl
    have aj := (ar.bt g1).1 (h.cb x)
    obtain ⟨di, a2, cG, dV, k0, ba, bg, cy, b2, cM⟩ := ctx (k :: p) (s x) (bj (ak x)) (S x) none d0 aj.2 ab
    rw [bb] at k0
    simp only [Option.some.injEq, Prod.mk.injEq, true_and] at k0
    obtain ⟨rfl, rfl⟩ := k0
    refine ⟨?_, ?_, ?_⟩
    ·rcases l7 k p aO (s x) with ⟨ad, gs, aC, e⟩ | ⟨ad, gs, aC, e⟩ | ⟨sz, xs, bF, aC, e⟩ | ⟨y, z, aC, e⟩ | e <;> rw [e] <;> first | rfl | exact g1
    ·refine sK aj.1 ab g2 (fun _ vs e => (aa vs e).elim) hw
    ·have mono : ∀ b, (cG b ∨ Sn b) → (S x b ∨ Sn b) := fun b J => J.imp (ba b) id
     rcases cM with ⟨l, r, aC, aF, a6⟩ | ⟨b, cur, ty, fr, l, r, aC, aF, a6, bQ, bT, bc⟩
     ·rw [aC]
      exact ag.mono (fun _ h => h) _ _ _ _ mono (a6 w aO bH Sn (fun _ _ => rfl) (fun _ _ => rfl) hw aA (fun b J af => aU x b J (ba b af)))
     ·refine ag.mono (fun _ h => h) _ _ _ _ mono (bc w aO bH Sn (fun _ _ => rfl) (fun _ _ _ => rfl) ?_ hw aA (fun b J af => aU x b J (ba b af)))
      rw [a6, ← bT]
 have := h.vH (t := x) main.1 main.2.1 main.2.2 (by rintro b (J | J); exact h.cL x b J; exact cx b J) (by rintro b (J | J); exact h.dk x b J; exact aK b J)
  (by rintro u b cj (J | J); exact fun hu => h.de u x b cj hu J; exact aU u b J) (by rintro b (J | J); exact h.cf x b J; exact bk b J)
 rwa [cC] at this
end
mutual
def j.cN : j → Bool
 | .slice _ => false
 | .ref _ => false
 | .fn _ _ => false
 | .h _ _ => false
 | .al _ _ => false
 | .J _ _ => false
 | .aP _ xs => j.kN xs
 | .bn d => d.cN
 | .agg ad => j.kN ad
 | .tuple ad => j.kN ad
 | _ => true
def j.kN : List j → Bool
 | [] => true
 | d :: ds => d.cN && j.kN ds
end
mutual
theorem ag.cN {w : World} {F aT : Nat → Prop} : ∀ (d : j) (cs : List Value) (S : Nat → Prop), d.cN = true → ag w F d cs S → ag w aT d cs S
 | .hole, _, _, _, h => h
 | .bool _, _, _, _, h => h
 | .cO, _, _, _, h => h
 | .int _ _, _, _, _, h => h
 | .str _, _, _, _, h => h
 | .b7, _, _, _, h => h
 | .bB, _, _, _, h => h
 | .slice xs, cs, S, aL, h => by simp [j.cN] at aL
 | .ref d, cs, S, aL, h => by simp [j.cN] at aL
 | .aP sz xs, cs, S, aL, h => by
   rw [ag] at h ⊢
   rcases h with h | ⟨b, cap, cur, e, fr, az, U, aa, aw, aH, aX, bD, bI, c4, eG, eB, ha⟩
   ·exact .inl h
   ·exact .inr ⟨b, cap, cur, e, fr, az, U, aa, aw, aH, aX, bD, bI, c4, aD.cN xs _ _ aL eG, eB, ha⟩
 | .bn d, cs, S, aL, h => by
   rw [ag] at h ⊢
   obtain ⟨b, cur, e, fr, az, U, aa, aw, aH, aX, bD, bI⟩ := h
   exact ⟨b, cur, e, fr, az, U, aa, aw, aH, ag.cN d _ _ aL aX, bD, bI⟩
 | .agg ad, cs, S, aL, h => by rw [ag] at h ⊢; exact aD.cN ad _ _ aL h
 | .tuple ad, cs, S, aL, h => by rw [ag] at h ⊢; exact aD.cN ad _ _ aL h
 | .fn _ _, _, _, aL, h => by simp [j.cN] at aL
 | .h _ _, _, _, _, h => h
 | .al _ _, _, _, _, h => h
 | .J _ _, _, _, _, h => h
 | .b_ _, _, _, _, h => h
theorem aD.cN {w : World} {F aT : Nat → Prop} : ∀ (ds : List j) (cs : List Value) (S : Nat → Prop), j.kN ds = true → aD w F ds cs S → aD w aT ds cs S
 | [], _, _, _, h => h
 | d :: ds, cs, S, aL, h => by
   simp only [j.kN, Bool.and_eq_true] at aL
   rw [aD] at h ⊢
   obtain ⟨br, bC, a_, ca, U, aa, aw, aH, aX, bD⟩ := h
   exact ⟨br, bC, a_, ca, U, ag.cN d _ _ aL.1 aa, aD.cN ds _ _ aL.2 aw, aH, aX, bD⟩
end
theorem xh : ∀ (q : List Nat) (av d e : j), j.sub q av = some d → j.sub q (j.put q e av) = some e := by
 intro q
 induction q with
 | nil => intro av d e _; simp [j.put, j.sub]
 | cons k q ih =>
   intro av d e h
   cases av with
   | agg ad =>
     simp only [j.sub] at h
     split at h
     ·rename_i x aj
      have ai : k < ad.length := (List.getElem?_eq_some_iff.1 aj).1
      simp only [j.put, aj, j.sub, List.getElem?_set_self ai]
      exact ih _ _ _ h
     ·cases h
   | tuple ad =>
     simp only [j.sub] at h
     split at h
     ·rename_i x aj
      have ai : k < ad.length := (List.getElem?_eq_some_iff.1 aj).1
      simp only [j.put, aj, j.sub, List.getElem?_set_self ai]
      exact ih _ _ _ h
     ·cases h
   | aP sz ad =>
     simp only [j.sub] at h
     split at h
     ·rename_i x aj
      have ai : k < ad.length := (List.getElem?_eq_some_iff.1 aj).1
      simp only [j.put, aj, j.sub, List.getElem?_set_self ai]
      exact ih _ _ _ h
     ·cases h
   | bn x =>
     cases k with
     | zero => simp only [j.sub] at h; simp only [j.put, j.sub]; exact ih _ _ _ h
     | succ k => simp [j.sub] at h
   | _ => simp [j.sub] at h
structure bw where
 a : j
 g : Bool
 d : j
 o : j
def j.own : j → Bool
 | .aP _ _ => true
 | .bn _ => true
 | _ => false
def j.dQ : j → Bool
 | .aP _ _ => true
 | .bn _ => true
 | .b_ _ => true
 | .agg ad => !j.dd ad
 | _ => false
def lu (d o : j) : Bool := match d, o with
 | .agg a, .agg b => j.cn a == j.cn b
 | .agg _, _ => false
 | _, .agg _ => false
 | _, _ => true
theorem lv {d : j} (h : d.dQ = true) : d.plain = false ∧ d.tree = true ∧ ∀ vs, d ≠ .tuple vs := by
 cases d <;> simp [j.dQ] at h <;> first | exact ⟨rfl, rfl, fun vs e => by cases e⟩ | exact ⟨by simp only [j.plain]; exact h, rfl, fun vs e => by cases e⟩
theorem Cx {d o : j} (h : d.dQ = true) (bo : o.dQ = true) (aI : lu d o = true) : o.wd = d.wd ∧ (∀ v, cp d v → cp o v) ∧ ∀ v, eY d.bO v → eY o v := by
 cases d <;> simp [j.dQ] at h <;> cases o <;> simp [j.dQ] at bo <;> simp [lu] at aI <;> first
  | exact ⟨rfl, fun _ h => h, fun _ h => h⟩
  | exact ⟨by simp only [j.wd]; exact aI.symm, fun _ h => h, fun _ h => h⟩
def bw.ok (s : ae) (p : bw) : Prop :=
 if p.g then (match p.a with | .h x q => j.sub q (s x) = some p.d ∧ p.d.dQ = true ∧ (p.o = .hole ∨ (p.o.dQ = true ∧ lu p.d p.o = true)) | _ => False)
 else view s p.a = some p.d
def fc : List bw → Bool
 | [] => true
 | p :: r => (r.all fun bA => !(p.g || bA.g) || (p.a.R.all fun u => !bA.a.R.contains u)) && fc r
def bw.take (s : ae) (p : bw) : ae :=
 if p.g then (match p.a with | .h x q => b4 (fa x s) x (j.put q p.d.bO (s x)) | _ => s) else s
def bw.e5 (s : ae) (p : bw) : ae :=
 if p.g then (match p.a, p.o with | _, .hole => s | .h x q, o => b4 (hb x s) x (j.put q o (s x)) | _, _ => s) else s
def c1 (s : ae) (ps : List bw) : ae := ps.foldl bw.take s
def e6 (s : ae) (ps : List bw) : ae := ps.foldl bw.e5 s
section
variable {w0 w an : World} {F0 X F Fc : Nat → Prop} {S : Nat → Nat → Prop} {s ah : ae} {ak gf : Nat → Value}
def Cy (w : World) (F : Nat → Prop) (s1 : ae) (ak : Nat → Value) (p : bw) (v : Value) (Sn : Nat → Prop) : Prop :=
 ∃ x q a0, p.a = .h x q ∧ j.sub q (s1 x) = some p.d.bO ∧ bU w q (s1 x) (bj (ak x)) none = some (p.d.bO, bj v, a0) ∧ (s1 x).R = [] ∧ (q = [] → cp p.d (ak x)) ∧ (q ≠ [] → (s1 x).tree = true) ∧
   cp p.d v ∧ ag w F p.d (bj v) Sn
theorem Cz {p : bw} {x : Nat} (h : (s x).R = []) (al : p.g = true → x ∉ p.a.R) : bw.take s p x = s x := by
 unfold bw.take
 split
 ·rename_i aN
  cases bs : p.a with
  | h y q =>
    have : x ≠ y := by
     have := al aN
     rw [bs] at this
     simpa [j.R] using this
    simp only
    rw [gd _ _ this]
    exact pI _ (by rw [h]; simp)
  | _ => rfl
 ·rfl
theorem tA : ∀ {ps : List bw} {s : ae} {x : Nat}, (s x).R = [] → (∀ p ∈ ps, p.g = true → x ∉ p.a.R) → c1 s ps x = s x := by
 intro ps
 induction ps with
 | nil => intros; rfl
 | cons p ps ih =>
   intro s x h al
   have e := Cz (s := s) (p := p) h (al p (by simp))
   show c1 (bw.take s p) ps x = s x
   rw [ih (by rw [e]; exact h) (fun bA cI => al bA (by simp [cI])), e]
theorem kO {d : j} (h : d.own = true) : d.plain = false ∧ d.tree = true ∧ d.bO = .hole ∧ d.one = true ∧ d.wd = 1 ∧ (∀ v, cp d v ↔ Value.dF v = true) := by
 cases d <;> simp [j.own] at h <;> exact ⟨rfl, rfl, rfl, rfl, rfl, fun v => Iff.rfl⟩
theorem CA : ∀ (ps : List bw) (vs : List Value) (s : ae) (S : Nat → Nat → Prop), aZ w0 F0 X F S s ak w → ps.length = vs.length →
  (∀ (i : Nat) (p : bw) (v : Value), ps[i]? = some p → vs[i]? = some v → p.a.plain = true ∧ ar w F s ak p.a v (fun _ => False) ∧ (p.g = true → p.ok s)) → fc ps = true →
  ∃ (Sn a_ : Nat → Nat → Prop), aZ w0 F0 X F a_ (c1 s ps) ak w ∧ (∀ u b, a_ u b → S u b) ∧
    (∀ (i : Nat) (p : bw) (v : Value), ps[i]? = some p → vs[i]? = some v → p.g = true → Cy w F (c1 s ps) ak p v (Sn i)) ∧
    (∀ i b, Sn i b → ∃ p, ps[i]? = some p ∧ p.g = true) ∧
    (∀ i b, Sn i b → ∃ u, S u b) ∧ (∀ i u b, Sn i b → ¬ a_ u b) ∧ (∀ i ay b, i ≠ ay → Sn i b → ¬ Sn ay b) ∧
    (∀ (aO : j) (b6 : Value) (az : Nat → Prop), (∀ p ∈ ps, p.g = true → ∀ u ∈ p.a.R, u ∉ aO.R) → ar w F s ak aO b6 az → ar w F (c1 s ps) ak aO b6 az) := by
 intro ps
 induction ps with
 | nil =>
   intro vs s S h aI _ _
   exact ⟨fun _ _ => False, S, h, fun _ _ h => h, fun i p v al => by simp at al, fun _ _ h => h.elim, fun _ _ h => h.elim, fun _ _ _ h => h.elim, fun _ _ _ _ h => h.elim, fun _ _ _ _ h => h⟩
 | cons p ps ih =>
   intro vs s S h aI pA gB
   cases vs with
   | nil => simp at aI
   | cons v vs =>
     simp only [List.length_cons, Nat.add_right_cancel_iff] at aI
     simp only [fc, Bool.and_eq_true, List.all_eq_true, Bool.or_eq_true, Bool.not_eq_true'] at gB
     obtain ⟨jy, iY⟩ := gB
     have nE : ∀ bA ∈ ps, (p.g = true ∨ bA.g = true) → ∀ u ∈ p.a.R, u ∉ bA.a.R := by
      intro bA cI aN u hu
      rcases jy bA cI with e | e
      ·rcases aN with aN | aN <;> simp [aN] at e
      ·simpa using e u hu
     obtain ⟨f1, f2, f3⟩ := pA 0 p v rfl rfl
     cases aN : p.g with
     | false =>
       have ev : bw.take s p = s := by simp [bw.take, aN]
       obtain ⟨Sn, a_, g1, g2, g3, g4, g5, g6, g7, g8⟩ := ih vs s S h aI (fun i bA b6 al aA => pA (i + 1) bA b6 (by simpa using al) (by simpa using aA)) iY
       have aC : c1 s (p :: ps) = c1 s ps := by show c1 (bw.take s p) ps = _; rw [ev]
       rw [aC]
       refine ⟨fun i => match i with | 0 => fun _ => False | i + 1 => Sn i, a_, g1, g2, ?_, ?_, ?_, ?_, ?_, fun aO b6 az ab => g8 aO b6 az fun bA cI => ab bA (by simp [cI])⟩
       ·intro i bA b6 al aA dP
        cases i with
        | zero => simp at al; subst al; rw [aN] at dP; cases dP
        | succ i => exact g3 i bA b6 (by simpa using al) (by simpa using aA) dP
       ·intro i b J
        cases i with
        | zero => exact J.elim
        | succ i => simpa using g4 i b J
       ·intro i b J
        cases i with
        | zero => exact J.elim
        | succ i => exact g5 i b J
       ·intro i u b J
        cases i with
        | zero => exact J.elim
        | succ i => exact g6 i u b J
       ·intro i ay b cj ax bx
        cases i with
        | zero => exact ax.elim
        | succ i =>
          cases ay with
          | zero => exact bx.elim
          | succ ay => exact g7 i ay b (by omega) ax bx
     | true =>
       have eF := f3 aN
       simp only [bw.ok, aN, if_true] at eF
       split at eF
       ·rename_i x q bs
        obtain ⟨cT, fU, o9⟩ := eF
        obtain ⟨ik, jz, rb⟩ := lv fU
        have tB : bE s p.a = some (p.d, b4 (fa x s) x (j.put q p.d.bO (s x))) := by
         rw [bs]; simp only [bE, cT, ik]; rfl
        obtain ⟨a_, t1, t2, t3, CB, t4, t5, t6, t7, t8, t9, t10, t11⟩ := jX h f1 f2 tB
        have ev : bw.take s p = b4 (fa x s) x (j.put q p.d.bO (s x)) := by simp [bw.take, aN, bs]
        have iZ : ∀ bA ∈ ps, x ∉ bA.a.R := fun bA cI => nE bA cI (.inl aN) x (by rw [bs]; simp [j.R])
        have tC : bw.take s p x = j.put q p.d.bO (s x) := by rw [ev, iH]
        have xi : (bw.take s p x).R = [] := by
         rw [tC]; exact pK q _ _ _ cT (.inl ik) (fun _ => by cases ab : p.d <;> first | rfl | (rw [ab] at fU; simp [j.dQ] at fU))
        obtain ⟨Sn, ca, g1, g2, g3, g4, g5, g6, g7, g8⟩ := ih vs (bw.take s p) a_ (by rw [ev]; exact t1) aI (by
         intro i bA b6 al aA
         obtain ⟨ba, bg, cy⟩ := pA (i + 1) bA b6 (by simpa using al) (by simpa using aA)
         have hm : bA ∈ ps := List.mem_of_getElem? al
         refine ⟨ba, ?_, ?_⟩
         ·have := t11 _ _ _ bg
          rw [bs] at this
          rw [ev]
          simp only [j.owner, ia] at this
          rwa [pI _ (iZ bA hm)] at this
         ·intro dP
          have := cy dP
          simp only [bw.ok, dP, if_true] at this ⊢
          split at this
          ·rename_i y fv mz
           have cj : y ≠ x := fun e => iZ bA hm (by rw [mz, e]; simp [j.R])
           rw [ev, gd _ _ cj]
           have aG := eT this.1 (.inl (lv this.2.1).1)
           simp only [fa, sI aG]
           exact this
          ·exact this.elim) iY
        have aC : c1 s (p :: ps) = c1 (bw.take s p) ps := rfl
        have lx : c1 (bw.take s p) ps x = j.put q p.d.bO (s x) := by
         rw [tA xi (fun bA cI _ => iZ bA cI), tC]
        rw [aC]
        refine ⟨fun i => match i with | 0 => CB | i + 1 => Sn i, ca, g1, fun u b J => t9 u b (g2 u b J), ?_, ?_, ?_, ?_, ?_, ?_⟩
        rotate_left 5
        ·intro aO b6 az ab ft
         refine g8 aO b6 az (fun bA cI => ab bA (by simp [cI])) ?_
         have := t11 _ _ _ ft
         rw [bs] at this
         rw [ev]
         simp only [j.owner, ia] at this
         rwa [pI _ (ab p (by simp) aN x (by rw [bs]; simp [j.R]))] at this
        ·intro i bA b6 al aA dP
         cases i with
         | zero =>
           simp at al aA; subst al aA
           have re := f2
           rw [bs, ar] at re
           obtain ⟨bH, a0, br, bC, tD⟩ := re _ cT ik
           refine ⟨x, q, a0, bs, ?_, ?_, ?_, ?_, ?_, t3, t4⟩
           ·rw [lx]; exact xh q _ _ _ cT
           ·rw [lx, bC]; exact Cv w q _ _ _ _ _ _ _ cT (j.lb _) br
           ·rw [lx, ← tC]; exact xi
           ·intro bR; subst bR
            simp only [j.sub, Option.some.injEq] at cT
            have := (ar.bt (by rw [cT]; exact jz)).1 (h.cb x)
            rw [cT] at this
            exact this.1
           ·intro bR
            have aG := eT cT (.inl ik)
            rw [lx]
            cases q with
            | nil => exact (bR rfl).elim
            | cons k q => rcases l7 k q p.d.bO (s x) with ⟨ad, gs, aC, e⟩ | ⟨ad, gs, aC, e⟩ | ⟨sz, xs, bF, aC, e⟩ | ⟨y, z, aC, e⟩ | e <;> rw [e] <;> first | rfl | exact aG
         | succ i => exact g3 i bA b6 (by simpa using al) (by simpa using aA) dP
        ·intro i b J
         cases i with
         | zero => exact ⟨p, rfl, aN⟩
         | succ i => simpa using g4 i b J
        ·intro i b J
         cases i with
         | zero => exact t10 b J
         | succ i => obtain ⟨u, hu⟩ := g5 i b J; exact ⟨u, t9 u b hu⟩
        ·intro i u b J
         cases i with
         | zero => exact fun hu => t7 u b J (g2 u b hu)
         | succ i => exact g6 i u b J
        ·intro i ay b cj ax bx
         cases i with
         | zero =>
           cases ay with
           | zero => exact cj rfl
           | succ ay => obtain ⟨u, hu⟩ := g5 ay b bx; exact t7 u b ax hu
         | succ i =>
           cases ay with
           | zero => obtain ⟨u, hu⟩ := g5 i b ax; exact t7 u b bx hu
           | succ ay => exact g7 i ay b (by omega) ax bx
       ·exact eF.elim
end
def dw (l : List j) : ae := fun i => l.getD i .hole
def ew (l : List Value) : Nat → Value := fun i => l.getD i undef
def jA (P : Program) (f : FuncId) (args : Array Value) (w : World) (hZ : Value → World → Prop) : Prop :=
 ((callFunc f args).run P w = .ok (.enter f args) w ∧ Calls P f args w (fun e an => ∃ v, e = .returned v ∧ hZ v an)) ∨
 ∃ v an, (callFunc f args).run P w = .ok (.value v) an ∧ hZ v an
theorem jA.mono {P : Program} {f : FuncId} {args : Array Value} {w : World} {hZ xj : Value → World → Prop} (h : jA P f args w hZ) (aB : ∀ v an, hZ v an → xj v an) : jA P f args w xj := by
 rcases h with ⟨U, aa⟩ | ⟨v, an, U, aa⟩
 ·exact .inl ⟨U, Calls.mono aa fun e an ⟨v, e, h⟩ => ⟨v, e, aB v an h⟩⟩
 ·exact .inr ⟨v, an, U, aB v an aa⟩
def b3 (C : bl) (f : FuncId) (as : List j) (r : j) (outs : List j) : Prop :=
 ∀ (w : World) (F X : Nat → Prop) (S : Nat → Nat → Prop) (vs : List Value), vs.length = as.length → aZ w F X F S (dw as) (ew vs) w →
   jA C.P f vs.toArray w fun v an => ∃ aT az, aZ w F X aT az (dw (r :: outs)) (ew (v :: vs)) an
def j.res : j → Bool
 | .h _ _ => false
 | .al _ _ => false
 | .J _ _ => false
 | .fn _ _ => false
 | _ => true
theorem xk {d : j} (h : d.tree = true) : d.R = [] := by cases d <;> first | rfl | (simp [j.tree] at h)
mutual
theorem tE {s ah : ae} : ∀ (a : j) (d : j), (∀ u ∈ a.R, (s u).tree = true → ah u = s u) → view s a = some d → view ah a = some d
 | .h x q, d, hu, h => by
   have aG : (s x).tree = true := by
    simp only [view] at h
    split at h
    ·rename_i e cT
     cases e <;> simp only at h <;> first
      | (cases h; done)
      | (split at h
         ·cases h
         ·rename_i al
          exact eT cT (.inl (by simpa using al)))
    ·cases h
   simp only [view] at h ⊢
   rw [hu x (by simp [j.R]) aG]; exact h
 | .al x q, d, hu, h => by
   have aG : (s x).tree = true := by
    simp only [view] at h
    split at h
    ·rename_i af
     split at h
     ·rename_i e cT; exact eT cT (.inr af)
     ·cases h
    ·cases h
   simp only [view] at h ⊢
   rw [hu x (by simp [j.R]) aG]; exact h
 | .J x q, d, hu, h => by simp [view] at h
 | .fn f cap, d, hu, h => by
   simp only [view, Option.map_eq_some_iff] at h ⊢
   obtain ⟨ds, U, aa⟩ := h
   exact ⟨ds, xl cap ds (by simpa [j.R] using hu) U, aa⟩
 | .hole, d, hu, h => h
 | .bool _, d, hu, h => h
 | .cO, d, hu, h => h
 | .int _ _, d, hu, h => h
 | .str _, d, hu, h => h
 | .b7, d, hu, h => h
 | .bB, d, hu, h => h
 | .slice _, d, hu, h => h
 | .aP _ _, d, hu, h => h
 | .ref _, d, hu, h => h
 | .bn _, d, hu, h => h
 | .agg _, d, hu, h => h
 | .tuple _, d, hu, h => h
 | .b_ _, d, hu, h => h
theorem xl {s ah : ae} : ∀ (as : List j) (ds : List j), (∀ u ∈ j.cE as, (s u).tree = true → ah u = s u) → views s as = some ds → views ah as = some ds
 | [], ds, hu, h => h
 | a :: as, ds, hu, h => by
   simp only [j.cE, List.mem_append] at hu
   simp only [views] at h ⊢
   split at h
   ·rename_i x y U aa
    rw [tE a x (fun u hm => hu u (.inl hm)) U, xl as y (fun u hm => hu u (.inr hm)) aa]; exact h
   ·cases h
end
section
variable {C : bl} {w0 w an : World} {F0 X F Fc : Nat → Prop} {S : Nat → Nat → Prop} {s ah : ae} {ak gf : Nat → Value}
def CC (w : World) (F : Nat → Prop) (s : ae) (ak : Nat → Value) (p : bw) (v : Value) (i0 : Nat → Prop) : Prop :=
 p.g = true → p.o = .hole ∨ ∃ x q a0 d0, p.a = .h x q ∧ j.sub q (s x) = some d0 ∧ bU w q (s x) (bj (ak x)) none = some (d0, bj v, a0) ∧ (s x).R = [] ∧
  (q = [] → cp p.o (ak x)) ∧ (q ≠ [] → (s x).tree = true) ∧ p.o.dQ = true ∧ ag w F p.o (bj v) i0 ∧ p.o.wd = d0.wd ∧ ∀ v, eY d0 v → eY p.o v
theorem CD : ∀ (ps : List bw) (vs : List Value) (s : ae) (S i0 : Nat → Nat → Prop), aZ w0 F0 X F S s ak w → ps.length = vs.length →
  (∀ (i : Nat) (p : bw) (v : Value), ps[i]? = some p → vs[i]? = some v → CC w F s ak p v (i0 i)) →
  (∀ i b, i0 i b → b < w.heap.size ∧ ¬ F b ∧ (X b ∨ w0.heap.size ≤ b) ∧ ∀ u, ¬ S u b) → (∀ i ay b, i ≠ ay → i0 i b → ¬ i0 ay b) → fc ps = true →
  ∃ ca, aZ w0 F0 X F ca (e6 s ps) ak w ∧ ∀ u b, ca u b → S u b ∨ ∃ i, i0 i b := by
 intro ps
 induction ps with
 | nil => intro vs s S i0 h _ _ _ _ _; exact ⟨S, h, fun u b J => .inl J⟩
 | cons p ps ih =>
   intro vs s S i0 h aI tF J ab gB
   cases vs with
   | nil => simp at aI
   | cons v vs =>
     simp only [List.length_cons, Nat.add_right_cancel_iff] at aI
     simp only [fc, Bool.and_eq_true, List.all_eq_true, Bool.or_eq_true, Bool.not_eq_true'] at gB
     obtain ⟨jy, iY⟩ := gB
     have nE : ∀ bA ∈ ps, (p.g = true ∨ bA.g = true) → ∀ u ∈ p.a.R, u ∉ bA.a.R := by
      intro bA cI aN u hu
      rcases jy bA cI with e | e
      ·rcases aN with aN | aN <;> simp [aN] at e
      ·simpa using e u hu
     have skip : bw.e5 s p = s → ∃ ca, aZ w0 F0 X F ca (e6 s (p :: ps)) ak w ∧ ∀ u b, ca u b → S u b ∨ ∃ i, i0 i b := by
      intro ev
      obtain ⟨ca, g1, g2⟩ := ih vs s S (fun i => i0 (i + 1)) h aI (fun i bA b6 al aA => tF (i + 1) bA b6 (by simpa using al) (by simpa using aA)) (fun i b h => J (i + 1) b h)
       (fun i ay b cj => ab (i + 1) (ay + 1) b (by omega)) iY
      refine ⟨ca, ?_, fun u b hu => (g2 u b hu).imp id fun ⟨i, ax⟩ => ⟨i + 1, ax⟩⟩
      show aZ _ _ _ _ _ (e6 (bw.e5 s p) ps) _ _
      rw [ev]; exact g1
     cases aN : p.g with
     | false => exact skip (by simp [bw.e5, aN])
     | true =>
       rcases tF 0 p v rfl rfl aN with bo | ⟨x, q, a0, d0, bs, br, bC, tD, pg, CE, tG, CF, CG, CH⟩
       ·exact skip (by simp only [bw.e5, aN, bo, if_true])
       ·obtain ⟨ik, jz, CI⟩ := lv tG
        have ev : bw.e5 s p = b4 (hb x s) x (j.put q p.o (s x)) := by
         simp only [bw.e5, aN, if_true, bs]
         cases CJ : p.o <;> first | rfl | (rw [CJ] at tG; simp [j.dQ] at tG)
        have step := h.e5 (x := x) (q := q) (aO := p.o) br bC CI (fun bR => ⟨jz, pg bR⟩) (fun k r bR => ⟨CE (by rw [bR]; simp), CH⟩) CG CF
         (fun b h => (J 0 b h).1) (fun b h => (J 0 b h).2.1) (fun u b h => (J 0 b h).2.2.2 u) (fun b h => (J 0 b h).2.2.1)
        rw [← ev] at step
        obtain ⟨ca, g1, g2⟩ := ih vs (bw.e5 s p) _ (fun i => i0 (i + 1)) step aI (by
         intro i bA b6 al aA dP
         have hm : bA ∈ ps := List.mem_of_getElem? al
         rcases tF (i + 1) bA b6 (by simpa using al) (by simpa using aA) dP with bo | ⟨y, fv, bh, d1, ba, bg, cy, b2, cM, c0, e4, gn, hC⟩
         ·exact .inl bo
         ·have cj : y ≠ x := fun e => nE bA hm (.inl aN) x (by rw [bs]; simp [j.R]) (by rw [ba, e]; simp [j.R])
          have ic : bw.e5 s p y = s y := by
           rw [ev, gd _ _ cj]
           exact tn _ (by rw [b2]; simp)
          exact .inr ⟨y, fv, bh, d1, ba, by rw [ic]; exact bg, by rw [ic]; exact cy, by rw [ic]; exact b2, cM, by rw [ic]; exact c0, e4, gn, hC⟩)
         (by
          intro i b ax
          obtain ⟨hz, fs, j5, dv⟩ := J (i + 1) b ax
          refine ⟨hz, fs, j5, fun u hu => ?_⟩
          simp only [ed] at hu
          split at hu
          ·rcases hu with hu | hu
           ·exact dv _ hu
           ·exact ab 0 (i + 1) b (by omega) hu ax
          ·exact dv _ hu)
         (fun i ay b cj => ab (i + 1) (ay + 1) b (by omega)) iY
        refine ⟨ca, g1, fun u b hu => ?_⟩
        rcases g2 u b hu with hu | ⟨i, ax⟩
        ·simp only [ed] at hu
         split at hu
         ·rename_i e; subst e
          exact hu.imp id fun h => ⟨0, h⟩
         ·exact .inl hu
        ·exact .inr ⟨i + 1, ax⟩
def gD (ps : List bw) : Bool := ps.any fun p => !p.g && !p.a.R.isEmpty
theorem xm (h : aZ w0 F0 X F S s ak w) {ps : List bw} {vs : List Value} {f : FuncId} {r : j} (aI : ps.length = vs.length)
  (ft : ∀ (i : Nat) (p : bw) (v : Value), ps[i]? = some p → vs[i]? = some v → p.a.plain = true ∧ ar w F s ak p.a v (fun _ => False))
  (eF : ∀ p ∈ ps, p.ok s) (gB : fc ps = true) (bb : ∀ (Fc hE : Nat → Prop) (cG : Nat → Nat → Prop), (∀ b, F b → Fc b) → (∀ b, hE b → ∃ u, S u b) → aZ w Fc hE Fc cG (dw (ps.map (·.d))) (ew vs) w →
   jA C.P f vs.toArray w fun v an => ∃ aT az, aZ w Fc hE aT az (dw (r :: ps.map (·.o))) (ew (v :: vs)) an) (aB : r.res = true)
  (aL : gD ps = true → r.cN = true ∧ ∀ p ∈ ps, p.o.cN = true) :
  jA C.P f vs.toArray w fun v an => ∃ aT az, aZ w0 F0 X aT az (e6 (c1 s ps) ps) ak an ∧ gO w0 X aT az (e6 (c1 s ps) ps) ak an r v ∧ ∀ b, F b → aT b ∧ an.heap[b]? = w.heap[b]? := by
 obtain ⟨Sn, a_, g1, g2, g3, g4, g5, g6, g7, g8⟩ := CA ps vs s S h aI (fun i p v al aA => ⟨(ft i p v al aA).1, (ft i p v al aA).2, fun _ => eF p (List.mem_of_getElem? al)⟩) gB
 have apart : ∀ (i ay : Nat) (p bA : bw), ps[i]? = some p → ps[ay]? = some bA → i ≠ ay → (p.g = true ∨ bA.g = true) → ∀ u ∈ p.a.R, u ∉ bA.a.R := by
  clear ft eF bb aL g1 g3 g4 g8 aI
  induction ps with
  | nil => intro i ay p bA al; simp at al
  | cons eu ps ih =>
    simp only [fc, Bool.and_eq_true, List.all_eq_true, Bool.or_eq_true, Bool.not_eq_true'] at gB
    obtain ⟨jy, iY⟩ := gB
    have nE : ∀ bA ∈ ps, (eu.g = true ∨ bA.g = true) → ∀ u ∈ eu.a.R, u ∉ bA.a.R := by
     intro bA cI aN u hu
     rcases jy bA cI with e | e
     ·rcases aN with aN | aN <;> simp [aN] at e
     ·simpa using e u hu
    intro i ay p bA al cI cj aN u hu
    cases i with
    | zero =>
      simp at al; subst al
      cases ay with
      | zero => exact (cj rfl).elim
      | succ ay => exact nE bA (List.mem_of_getElem? (by simpa using cI)) aN u hu
    | succ i =>
      cases ay with
      | zero =>
        simp at cI; subst cI
        exact fun pL => nE p (List.mem_of_getElem? (by simpa using al)) aN.symm u pL hu
      | succ ay => exact ih iY i ay p bA (by simpa using al) (by simpa using cI) (by omega) aN u hu
 let Fc : Nat → Prop := fun b => F b ∨ (gD ps = true ∧ ∃ u, a_ u b)
 let hE : Nat → Prop := fun b => ∃ i, Sn i b
 have tH : ∀ b, F b → ¬ hE b := fun b aK ⟨i, ax⟩ => by obtain ⟨u, hu⟩ := g5 i b ax; exact h.dk u b hu aK
 have pM : ∀ u b, a_ u b → ¬ hE b := fun u b hu ⟨i, ax⟩ => g6 i u b ax hu
 have rf : ∀ b, hE b → (X b ∨ w0.heap.size ≤ b) ∧ b < w.heap.size := fun b ⟨i, ax⟩ => by obtain ⟨u, hu⟩ := g5 i b ax; exact ⟨h.cf u b hu, h.cL u b hu⟩
 have pre : aZ w Fc hE Fc Sn (dw (ps.map (·.d))) (ew vs) w := by
  refine ⟨fun _ h => h, fun _ h => .inl h, ?_, fun i b ax => (rf b ⟨i, ax⟩).2, ?_, fun i ay b cj => g7 i ay b cj, fun i b ax => .inl ⟨i, ax⟩, ?_, fun _ _ _ => rfl, Nat.le_refl _, rfl, rfl, rfl⟩
  ·rintro b (J | ⟨_, u, hu⟩)
   ·exact h.c6 b J
   ·exact g1.cL u b hu
  ·rintro i b ax (J | ⟨_, u, hu⟩)
   ·exact tH b J ⟨i, ax⟩
   ·exact g6 i u b ax hu
  ·intro t
   cases al : ps[t]? with
   | none =>
     have : dw (ps.map (·.d)) t = .hole := by simp [dw, List.getD, al]
     rw [this, ar]; trivial
   | some p =>
     have cx : t < vs.length := by rw [← aI]; exact (List.getElem?_eq_some_iff.1 al).1
     have aA : vs[t]? = some vs[t] := List.getElem?_eq_getElem cx
     have aC : dw (ps.map (·.d)) t = p.d := by simp [dw, List.getD, al]
     have aF : ew vs t = vs[t] := by simp [ew, List.getD, aA]
     rw [aC, aF]
     have hm : p ∈ ps := List.mem_of_getElem? al
     have ai := eF p hm
     cases aN : p.g with
     | true =>
       obtain ⟨x, q, a0, ba, bg, cy, b2, cM, c0, e4, gn⟩ := g3 t p _ al aA aN
       simp only [bw.ok, aN, if_true, ba] at ai
       exact (ar.bt (lv ai.2.1).2.1).2 ⟨e4, ag.mono (fun b J => .inl J) _ _ _ _ (fun _ h => h) gn⟩
     | false =>
       simp only [bw.ok, aN] at ai
       obtain ⟨f1, f2⟩ := ft t p _ al aA
       have xn : ∀ bA ∈ ps, bA.g = true → ∀ u ∈ bA.a.R, u ∉ p.a.R := by
        intro bA cI dP u hu
        obtain ⟨ay, bx⟩ := List.getElem?_of_mem cI
        refine apart ay t bA p bx al (fun e => ?_) (.inl dP) u hu
        subst e; rw [al] at bx; simp only [Option.some.injEq] at bx; rw [bx, dP] at aN; cases aN
       have re := g8 _ _ _ xn f2
       have hg : view (c1 s ps) p.a = some p.d := tE _ _ (fun u hu aG => tA (xk aG) (fun bA cI dP pL => xn bA cI dP u pL hu)) (by simpa using ai)
       refine ar.nothing (Cu f1 hg) ((Cw g1 (Fc := Fc) (fun b J => .inl J) (SizeOf.sizeOf p.a)).1 p.a _ p.d (Nat.le_refl _) ?_ hg re)
       intro u hu b J
       refine .inr ⟨?_, u, J⟩
       simp only [gD, List.any_eq_true]
       refine ⟨p, hm, ?_⟩
       cases hc : p.a.R with
       | nil => rw [hc] at hu; cases hu
       | cons _ _ => simp [aN]
 refine jA.mono (bb Fc hE Sn (fun b J => .inl J) (fun b ⟨i, ax⟩ => g5 i b ax) pre) ?_
 rintro v an ⟨aT, az, af⟩
 have keep : ∀ b, b < w.heap.size → ¬ hE b → an.heap[b]? = w.heap[b]? := af.old
 let jB : Nat → Prop := fun b => if gD ps = true then F b else aT b
 have xo : ∀ b, F b → aT b := fun b J => af.ei b (.inl J)
 have nF : ∀ b, F b → jB b := fun b J => by
  simp only [jB]; split
  ·exact J
  ·exact xo b J
 have pN : ∀ b, jB b → aT b := fun b J => by
  simp only [jB] at J; split at J
  ·exact xo b J
  ·exact J
 have xp : ∀ b, jB b → F b ∨ hE b ∨ w.heap.size ≤ b := fun b J => by
  simp only [jB] at J; split at J
  ·exact .inl J
  ·rename_i lo
   rcases af.eD b J with (J | ⟨U, _⟩) | J | J
   ·exact .inl J
   ·exact (lo U).elim
   ·exact .inr (.inl J)
   ·exact .inr (.inr J)
 have mid : aZ w0 F0 X jB a_ (c1 s ps) ak an := by
  refine ⟨fun b J => nF b (g1.ei b J), ?_, fun b J => af.c6 b (pN b J), fun t b J => Nat.lt_of_lt_of_le (g1.cL t b J) af.size, ?_, g1.de, g1.cf, ?_, ?_, Nat.le_trans g1.size af.size, af.os.trans g1.os, af.tape.trans g1.tape, af.output.trans g1.output⟩
  ·intro b J
   rcases xp b J with J | J | J
   ·exact g1.eD b J
   ·rcases (rf b J).1 with h | h
    ·exact .inr (.inl h)
    ·exact .inr (.inr h)
   ·exact .inr (.inr (Nat.le_trans g1.size J))
  ·intro t b aG J
   rcases xp b J with J | J | J
   ·exact g1.dk t b aG J
   ·exact pM t b aG J
   ·exact absurd (g1.cL t b aG) (by omega)
  ·intro t
   exact ar.frame (Sx := a_) (fun b J => keep b (h.c6 b J) (tH b J)) nF (fun x b J => keep b (g1.cL x b J) (pM x b J)) g1.cb _ _ _ (fun b J => keep b (g1.cL t b J) (pM t b J)) (g1.cb t)
  ·intro b J fO
   refine (keep b (Nat.lt_of_lt_of_le J g1.size) fun aj => ?_).trans (g1.old b J fO)
   rcases (rf b aj).1 with h | h
   ·exact fO h
   ·omega
 have xq : ∀ (d : j) (cs : List Value) (cf : Nat → Prop), (gD ps = true → d.cN = true) → ag an aT d cs cf → ag an jB d cs cf := by
  intro d cs cf th el
  by_cases hle : gD ps = true
  ·exact ag.cN d cs cf (th hle) el
  ·exact ag.mono (fun b J => by simp only [jB]; rw [if_neg hle]; exact J) _ _ _ _ (fun _ h => h) el
 have bound : ∀ i b, az i b → b < an.heap.size ∧ ¬ jB b ∧ (X b ∨ w0.heap.size ≤ b) ∧ ∀ u, ¬ a_ u b := by
  intro i b J
  refine ⟨af.cL i b J, fun aK => af.dk i b J (pN b aK), ?_, fun u hu => ?_⟩
  ·rcases af.cf i b J with aj | aj
   ·exact (rf b aj).1
   ·exact .inr (Nat.le_trans g1.size aj)
  ·rcases af.cf i b J with aj | aj
   ·exact pM u b hu aj
   ·exact absurd (g1.cL u b hu) (by omega)
 obtain ⟨ca, ba, bg⟩ := CD ps vs (c1 s ps) a_ (fun i => az (i + 1)) mid aI (by
  intro i p b6 al aA aN
  have hm : p ∈ ps := List.mem_of_getElem? al
  have ai := eF p hm
  obtain ⟨x, q, a0, aC, aF, a6, bQ, bT, bc, a8, hQ⟩ := g3 i p b6 al aA aN
  simp only [bw.ok, aN, if_true, aC] at ai
  rcases ai.2.2 with bo | bo
  ·exact .inl bo
  ·obtain ⟨fy, l2, rh⟩ := Cx ai.2.1 bo.1 bo.2
   refine .inr ⟨x, q, a0, p.d.bO, aC, aF, ?_, bQ, fun bR => l2 _ (bT bR), bc, bo.1, ?_, fy.trans (j.lb _).symm, rh⟩
   ·cases q with
    | nil => simpa only [bU] using a6
    | cons k q =>
      have aG := bc (by simp)
      rw [sF (k :: q) _ _ (a_ x) none _ ((ar.bt aG).1 (g1.cb x)).2 aF (fun b J => keep b (g1.cL x b J) (pM x b J))]
      exact a6
   ·have := af.cb (i + 1)
    have hy : dw (r :: ps.map (·.o)) (i + 1) = p.o := by simp [dw, List.getD, al]
    have kC : ew (v :: vs) (i + 1) = b6 := by simp [ew, List.getD, aA]
    rw [hy, kC] at this
    exact xq _ _ _ (fun hle => (aL hle).2 p hm) ((ar.bt (lv bo.1).2.1).1 this).2)
  (fun i b J => bound (i + 1) b J) (fun i ay b cj => af.de (i + 1) (ay + 1) b (by omega)) gB
 refine ⟨jB, ca, ba, ?_, fun b J => ⟨nF b J, keep b (h.c6 b J) (tH b J)⟩⟩
 have bk := af.cb 0
 have hy : dw (r :: ps.map (·.o)) 0 = r := rfl
 have kC : ew (v :: vs) 0 = v := rfl
 rw [hy, kC] at bk
 cases aG : r.tree with
 | false =>
   cases r <;> first
    | (simp [j.tree] at aG; done)
    | (simp [j.res] at aB; done)
    | exact .inl ⟨rfl, by rw [ar]; trivial⟩
 | true =>
   obtain ⟨s1, s2⟩ := (ar.bt aG).1 bk
   have dD := xq _ _ _ (fun hle => (aL hle).1) s2
   refine .inr ⟨aG, s1, az 0, dD, fun b J => (bound 0 b J).1, fun b J => (bound 0 b J).2.1, fun u b J hu => ?_, fun b J => (bound 0 b J).2.2.1⟩
   rcases bg u b hu with hu | ⟨i, ax⟩
   ·exact (bound 0 b J).2.2.2 u hu
   ·exact af.de 0 (i + 1) b (by omega) J ax
theorem CK (h : aZ w0 F0 X F S s ak w) {ps : List bw} {vs : List Value} {f : FuncId} {r : j} (aI : ps.length = vs.length)
  (ft : ∀ (i : Nat) (p : bw) (v : Value), ps[i]? = some p → vs[i]? = some v → p.a.plain = true ∧ ar w F s ak p.a v (fun _ => False))
  (eF : ∀ p ∈ ps, p.ok s) (gB : fc ps = true) (bb : b3 C f (ps.map (·.d)) r (ps.map (·.o))) (aB : r.res = true)
  (aL : gD ps = true → r.cN = true ∧ ∀ p ∈ ps, p.o.cN = true) :
  jA C.P f vs.toArray w fun v an => ∃ aT az, aZ w0 F0 X aT az (e6 (c1 s ps) ps) ak an ∧ gO w0 X aT az (e6 (c1 s ps) ps) ak an r v ∧ ∀ b, F b → aT b ∧ an.heap[b]? = w.heap[b]? :=
 xm h aI ft eF gB (fun Fc hE cG _ _ al => bb w Fc hE cG vs (by simp [aI]) al) aB aL
end
structure bf where
 dst : Option Nat
 aQ : du
 guard : Option (Nat × Bool)
def pO (ops : Array Oper) : Option (Nat × Bool) → Option (Option (Nat × Bool))
 | none => some none
 | some (ay, b) => match (ops[ay]?).bind (·.dst) with
   | some t => some (some (t, b))
   | none => none
structure Fr where
 n : Nat
 fx : List Nat
def hF (n : Fr) : Option Nat → Bool
 | none => true
 | some t => decide (t < n.n) && !n.fx.contains t
def ly (op : Op) : du := match b5 op with
 | some aQ => aQ
 | none => .bad
def ka (n : Fr) (ops : Array Oper) (o : Oper) : Option bf :=
 if hF n o.dst = true then match pO ops o.guard with
  | some g => some ⟨o.dst, ly o.op, g⟩
  | none => none
 else none
def kb (n : Fr) (ops : Array Oper) : List Oper → Option (List bf)
 | [] => some []
 | o :: os => match ka n ops o, kb n ops os with
   | some r, some rs => some (r :: rs)
   | _, _ => none
def ri (C : bl) (s : ae) (f : aq) (args : List aq) (K : j → ae → Prop) : Prop :=
 ∃ (g : FuncId) (caps : List j) (ps : List bw) (r : j), au s f = .fn g caps ∧ j.dd caps = true ∧ ps.map (·.a) = args.map (au s) ++ caps ∧ (∀ p ∈ ps, p.ok s) ∧ fc ps = true ∧
   b3 C g (ps.map (·.d)) r (ps.map (·.o)) ∧ r.res = true ∧ (gD ps = true → r.cN = true ∧ ∀ p ∈ ps, p.o.cN = true) ∧ K r (e6 (c1 s ps) ps)
mutual
def j.ep (s : ae) : j → Bool
 | .h x q => q.isEmpty && (s x).own
 | .J x _ => !(s x).plain
 | .al _ _ => false
 | .hole => true
 | .fn _ cap => j.lz s cap
 | d => d.plain
def j.lz (s : ae) : List j → Bool
 | [] => true
 | d :: ds => d.ep s && j.lz s ds
end
def kP (s : ae) : List (Nat × j) → ae
 | [] => s
 | p :: L => kP (b4 s p.1 p.2) L
def kc (s : ae) : List (Nat × j) → Bool
 | [] => true
 | p :: L => p.2.ep s && kc s L
def hG (s : ae) (us : List Nat) : List (Nat × j) := us.map fun u => (u, s u)
def i1 (C : bl) (s : ae) (aQ : du) (K : j → ae → Prop) : Prop :=
 match aQ with
 | .call f args => ∃ (g : FuncId) (caps : List j) (ps : List bw) (r : j), au s f = .fn g caps ∧ j.dd caps = true ∧ ps.map (·.a) = args.map (au s) ++ caps ∧ (∀ p ∈ ps, p.ok s) ∧ fc ps = true ∧
   b3 C g (ps.map (·.d)) r (ps.map (·.o)) ∧ r.res = true ∧ (gD ps = true → r.cN = true ∧ ∀ p ∈ ps, p.o.cN = true) ∧ K r (e6 (c1 s ps) ps)
 | .shr aQ => ∃ av s1, aR C s aQ = some (av, s1) ∧ av.tree = true ∧ (∀ vs, av ≠ .tuple vs) ∧ K av.share s1
 | .hV f args u x => s u = .h x [] ∧ (s x).own = true ∧ ri C s f args fun av s1 => s1 u = .hole ∧ (s1 x).own = true ∧ K av (b4 s1 u (.h x []))
 | .hW f args us => kc s (hG s us) = true ∧ ri C s f args fun av s1 => kc s1 (hG s us) = true ∧ K av (kP s1 (hG s us))
 | aQ => ∃ av s1, aR C s aQ = some (av, s1) ∧ K av s1
theorem rj {C : bl} {s : ae} {aQ : du} {K bY : j → ae → Prop} (h : i1 C s aQ K) (ai : ∀ av s, K av s → bY av s) : i1 C s aQ bY := by
 cases aQ with
 | call f args =>
   obtain ⟨g, caps, ps, r, U, dE, aa, aw, aH, aX, bD, bI, c4⟩ := h
   exact ⟨g, caps, ps, r, U, dE, aa, aw, aH, aX, bD, bI, ai _ _ c4⟩
 | shr aQ =>
   obtain ⟨av, s1, U, aa, aw, aH⟩ := h
   exact ⟨av, s1, U, aa, aw, ai _ _ aH⟩
 | hV f args u x =>
   obtain ⟨ba, bg, g, caps, ps, r, U, dE, aa, aw, aH, aX, bD, bI, c4, eG, eB⟩ := h
   exact ⟨ba, bg, g, caps, ps, r, U, dE, aa, aw, aH, aX, bD, bI, c4, eG, ai _ _ eB⟩
 | hW f args us =>
   obtain ⟨bg, g, caps, ps, r, U, dE, aa, aw, aH, aX, bD, bI, c4, eG⟩ := h
   exact ⟨bg, g, caps, ps, r, U, dE, aa, aw, aH, aX, bD, bI, c4, ai _ _ eG⟩
 | _ =>
   obtain ⟨av, s1, U, aa⟩ := h
   exact ⟨av, s1, U, ai _ _ aa⟩
def hi (C : bl) (s : ae) (o : bf) (K : ae → Prop) : Prop :=
 match o.guard with
 | none => i1 C s o.aQ fun av s1 => K (fin s1 o.dst av)
 | some (t, b) => match s t with
   | .bool c9 => if c9 = b then i1 C s o.aQ (fun av s1 => K (fin s1 o.dst av)) else K (fin s o.dst (.tuple []))
   | .tuple [] => K (fin s o.dst (.tuple []))
   | _ => False
def gU (C : bl) (s : ae) : List bf → (ae → Prop) → Prop
 | [], K => K s
 | o :: os, K => hi C s o fun s1 => gU C s1 os K
def fV (C : bl) (ros : List bf) (s : ae) : List Nat → (ae → Prop) → Prop
 | [], K => K s
 | i :: l, K => match ros[i]? with
   | none => fV C ros s l K
   | some o => hi C s o fun s1 => fV C ros s1 l K
theorem CL (C : bl) (K : ae → Prop) : ∀ (rs pre : List bf) (s : ae), gU C s rs K → fV C (pre ++ rs) s ((List.range rs.length).map (· + pre.length)) K := by
 intro rs
 induction rs with
 | nil => intro pre s h; exact h
 | cons r rs ih =>
   intro pre s h
   rw [List.length_cons, List.range_succ_eq_map, List.map_cons, List.map_map]
   simp only [fV, Nat.zero_add]
   rw [List.getElem?_append_right (Nat.le_refl _)]
   simp only [Nat.sub_self, List.getElem?_cons_zero]
   have key : ∀ s1, gU C s1 rs K → fV C (pre ++ r :: rs) s1 ((List.range rs.length).map ((fun x => x + pre.length) ∘ Nat.succ)) K := by
    intro s1 U
    have := ih (pre ++ [r]) s1 U
    simp only [List.append_assoc, List.singleton_append, List.length_append, List.length_singleton] at this
    have e : ((fun x => x + pre.length) ∘ Nat.succ) = fun x => x + (pre.length + 1) := by funext x; simp; omega
    rw [e]; exact this
   simp only [gU] at h
   unfold hi at h ⊢
   split
   ·rename_i aN; rw [aN] at h; exact rj h fun av s1 => key _
   ·rename_i t b aN
    rw [aN] at h
    simp only at h
    split
    ·rename_i c9 R
     rw [R] at h
     simp only at h
     split
     ·rename_i J; rw [if_pos J] at h; exact rj h fun av s1 => key _
     ·rename_i J; rw [if_neg J] at h; exact key _ h
    ·rename_i R; rw [R] at h; exact key _ h
    ·rename_i U aa
     split at h
     ·exact U _ (by assumption)
     ·exact aa (by assumption)
     ·exact h
structure Rel (w0 : World) (F0 X : Nat → Prop) (n : Fr) (ρ : Nat → Value) (s : ae) (a : Act) (w : World) : Prop where
 defers : a.defers = []
 size : a.tmps.size = n.n
 fixed : ∀ i ∈ n.fx, a.tmps.getD i undef = ρ i
 rel : ∃ F S, aZ w0 F0 X F S s (fun t => a.tmps.getD t undef) w
section
variable {C : bl} {w0 w : World} {F0 X : Nat → Prop} {n : Fr} {ρ : Nat → Value} {s s1 : ae} {a : Act} {av : j} {Q : Exit → Act → World → Prop}
theorem tI {dst : Option Nat} (v : Value) (R : a.tmps.size = n.n) (ab : hF n dst = true) :
  (fun t => (a.put dst v).tmps.getD t undef) = l9 (fun t => a.tmps.getD t undef) dst v ∧ (a.put dst v).tmps.size = n.n ∧ (a.put dst v).defers = a.defers := by
 cases dst with
 | none => exact ⟨rfl, R, rfl⟩
 | some d =>
   simp only [hF, Bool.and_eq_true, decide_eq_true_eq] at ab
   refine ⟨?_, by simp [Act.put, R], rfl⟩
   funext t
   simp only [Act.put, l9, b4, Array.getD_eq_getD_getElem?]
   by_cases h : t = d
   ·subst h
    rw [if_pos rfl, Array.getElem?_setIfInBounds_self_of_lt (by omega)]; rfl
   ·rw [if_neg h, Array.getElem?_setIfInBounds_ne (fun e => h e.symm)]
theorem Rel.put {F S} (ab : a.defers = []) (R : a.tmps.size = n.n) (bb : ∀ i ∈ n.fx, a.tmps.getD i undef = ρ i) {an : World} (aB : aZ w0 F0 X F S s (fun t => a.tmps.getD t undef) an) {v : Value} (aA : gO w0 X F S s (fun t => a.tmps.getD t undef) an av v)
  {dst : Option Nat} (eF : hF n dst = true) : Rel w0 F0 X n ρ (fin s dst av) (a.put dst v) an := by
 obtain ⟨aC, aF, a6⟩ := tI (n := n) (dst := dst) v R eF
 obtain ⟨az, aS⟩ := aB.fin aA dst
 refine ⟨a6.trans ab, aF, fun i ax => ?_, F, az, by rw [aC]; exact aS⟩
 rw [congrFun aC i]
 cases dst with
 | none => exact bb i ax
 | some d =>
   simp only [hF, Bool.and_eq_true, Bool.not_eq_true', List.contains_eq_mem, decide_eq_false_iff_not] at eF
   have cj : i ≠ d := fun e => eF.2 (by rw [← e]; exact ax)
   simp only [l9]
   rw [gd _ _ cj]
   exact bb i ax
theorem Rel.skip (h : Rel w0 F0 X n ρ s a w) {dst : Option Nat} (eF : hF n dst = true) : Rel w0 F0 X n ρ (fin s dst (.tuple [])) (a.put dst undef) w := by
 obtain ⟨ab, R, bb, F, S, aB⟩ := h
 refine Rel.put (av := .tuple []) ab R bb aB (.inl ⟨rfl, (ar.bt (d := .tuple []) rfl).2 ⟨?_, ?_⟩⟩) eF
 ·exact ⟨#[], rfl, rfl, fun k d x ai => by simp at ai⟩
 ·rw [ag, aD]; rfl
theorem xr {F : Nat → Prop} {ak : Nat → Value} {w : World} : ∀ {ds es : List j} {vs us : List Value}, ck w F s ak ds vs → ck w F s ak es us → ck w F s ak (ds ++ es) (vs ++ us) := by
 intro ds
 induction ds with
 | nil => intro es vs us U aa; rw [ck] at U; subst U; exact aa
 | cons d ds ih =>
   intro es vs us U aa
   rw [ck] at U
   obtain ⟨v, fE, rfl, g1, g2⟩ := U
   rw [List.cons_append, List.cons_append, ck]
   exact ⟨v, _, rfl, g1, ih g2 aa⟩
theorem xt {F : Nat → Prop} {ak : Nat → Value} {w : World} : ∀ {ds : List j} {vs : List Value}, ck w F s ak ds vs → ds.length = vs.length ∧ ∀ (i : Nat) (d : j) (v : Value), ds[i]? = some d → vs[i]? = some v → ar w F s ak d v (fun _ => False) := by
 intro ds
 induction ds with
 | nil => intro vs h; rw [ck] at h; subst h; exact ⟨rfl, fun i d v h => by simp at h⟩
 | cons d ds ih =>
   intro vs h
   rw [ck] at h
   obtain ⟨v, fE, rfl, g1, g2⟩ := h
   obtain ⟨ba, bg⟩ := ih g2
   refine ⟨by simp [ba], fun i aO b6 ab aA => ?_⟩
   cases i with
   | zero => simp at ab aA; subst ab aA; exact g1
   | succ i => exact bg i aO b6 (by simpa using ab) (by simpa using aA)
theorem kd {op : Op} {aQ : du} (h : ly op = aQ) : aQ = .bad ∨ b5 op = some aQ := by
 unfold ly at h
 split at h
 ·subst h; right; assumption
 ·exact .inl h.symm
theorem CM {op : Op} {aQ : du} : b5 op ≠ some (.shr aQ) := by
 intro h
 unfold b5 at h
 split at h <;> (try split at h) <;> (try split at h) <;> (try split at h) <;> (try simp [Option.map_eq_some_iff] at h)
theorem CN {op : Op} {f : aq} {args : List aq} {u x : Nat} : b5 op ≠ some (.hV f args u x) := by
 intro h
 unfold b5 at h
 split at h <;> (try split at h) <;> (try split at h) <;> (try split at h) <;> (try simp [Option.map_eq_some_iff] at h)
theorem CO {op : Op} {f : aq} {args : List aq} {us : List Nat} : b5 op ≠ some (.hW f args us) := by
 intro h
 unfold b5 at h
 split at h <;> (try split at h) <;> (try split at h) <;> (try split at h) <;> (try simp [Option.map_eq_some_iff] at h)
theorem CP {op : Op} {T : TypeId} {x : aq} : b5 op ≠ some (.gQ T x) := by
 intro h
 unfold b5 at h
 split at h <;> (try split at h) <;> (try split at h) <;> (try split at h) <;> (try simp [Option.map_eq_some_iff] at h)
theorem CQ {op : Op} {x : aq} : b5 op ≠ some (.lq x) := by
 intro h
 unfold b5 at h
 split at h <;> (try split at h) <;> (try split at h) <;> (try split at h) <;> (try simp [Option.map_eq_some_iff] at h)
theorem CR {op : Op} {x : aq} : b5 op ≠ some (.kK x) := by
 intro h
 unfold b5 at h
 split at h <;> (try split at h) <;> (try split at h) <;> (try split at h) <;> (try simp [Option.map_eq_some_iff] at h)
theorem CS {op : Op} {x : aq} (h : b5 op = some (.cK x)) : ∃ cl, op = .move cl ∧ cg cl = some x := by
 unfold b5 at h
 split at h <;> (try split at h) <;> (try split at h) <;> (try split at h) <;> (try simp [Option.map_eq_some_iff] at h)
 exact ⟨_, rfl, h⟩
theorem CT {op : Op} {x : aq} (h : b5 op = some (.eo x)) : ∃ cl, op = .assign cl ∧ cg cl = some x := by
 unfold b5 at h
 split at h <;> (try split at h) <;> (try split at h) <;> (try split at h) <;> (try simp [Option.map_eq_some_iff] at h)
 exact ⟨_, rfl, h⟩
theorem CU {op : Op} {T aV : TypeId} {x y : aq} : b5 op ≠ some (.iS T aV x y) := by
 intro h
 unfold b5 at h
 split at h <;> (try split at h) <;> (try split at h) <;> (try split at h) <;> (try simp [Option.map_eq_some_iff] at h)
theorem CV {op : Op} {T aV : TypeId} {x y : aq} (h : b5 op = some (.app T aV x y)) : ∃ a b, op = .call ⟨.builtin .append, #[a, b], #[T, aV]⟩ ∧ cg a = some x ∧ cg b = some y := by
 cases op with
 | call c =>
   obtain ⟨callee, args, argTypes⟩ := c
   simp only [b5] at h
   split at h
   ·split at h <;> simp at h
   ·split at h <;> simp at h
   ·split at h <;> simp at h
   ·(split at h <;> try split at h) <;> simp at h
   ·(split at h <;> try split at h) <;> simp at h
   ·split at h
    ·rename_i a b tJ ra hX mw
     split at h
     ·rename_i cl gy aj aY
      simp only [Option.some.injEq, du.app.injEq] at h
      obtain ⟨rfl, rfl, rfl, rfl⟩ := h
      refine ⟨a, b, ?_, aj, aY⟩
      have aC : args = #[a, b] := by apply Array.ext'; exact hX
      have aF : argTypes = #[tJ, ra] := by apply Array.ext'; exact mw
      subst aC aF
      rfl
     ·cases h
    ·cases h
   ·cases h
 | makeFunc fn first cs =>
   cases fn <;> simp only [b5] at h <;> first | (cases h; done) | (split at h <;> simp at h)
 | slice T x bV ax e_ =>
   cases e_ <;> simp only [b5] at h <;> first | (cases h; done) | (split at h <;> simp at h)
 | _ => simp only [b5] at h <;> first | (cases h; done) | (simp at h; done) | (split at h <;> simp at h)
theorem aZ.alias {F : Nat → Prop} {S : Nat → Nat → Prop} {ak : Nat → Value} {u x : Nat} (h : aZ w0 F0 X F S s ak w) (hu : s u = .hole) (aj : (s x).own = true) (aA : bj (ak u) = bj (ak x)) (U : Value.dF (ak u) = true) :
  aZ w0 F0 X F (ed S u (fun _ => False)) (b4 s u (.h x [])) ak w := by
 have cC : b4 ak u (ak u) = ak := by funext y; simp only [b4]; split <;> simp_all
 have := h.o7 (t := u) (d := .h x []) (v := ak u) rfl (by
  rw [ar]
  intro d ab al
  simp only [j.sub, Option.some.injEq] at ab
  subst ab
  exact ⟨bj (ak x), none, rfl, aA, ((kO aj).2.2.2.2.2 _).2 U⟩)
 rwa [cC] at this
theorem gO.less {F : Nat → Prop} {S az : Nat → Nat → Prop} {ak : Nat → Value} {s1 : ae} {v : Value} (aU : ∀ u b, az u b → S u b) (aB : av.res = true) (h : gO w0 X F S s ak w av v) : gO w0 X F az s1 ak w av v := by
 rcases h with ⟨U, aa⟩ | ⟨U, aa, Sn, aw, aH, aX, bD, bI⟩
 ·refine .inl ⟨U, ?_⟩
  cases av <;> first
   | (simp [j.res] at aB; done)
   | (rw [ar]; trivial)
   | (rw [ar] at aa ⊢; exact aa)
 ·exact .inr ⟨U, aa, Sn, aw, aH, aX, fun u b J hu => bD u b J (aU u b hu), bI⟩
theorem tK (aJ : C.cP) (h : Rel w0 F0 X n ρ s a w) {o : Oper} {f : aq} {args : List aq} (bq : b5 o.op = some (.call f args)) (ab : hF n o.dst = true) {K : j → ae → Prop} {L : ae → Prop} {next : Act → World → Prop}
  (hw : ri C s f args K) (mA : ∀ F S aT az w an av s1 v, aZ w0 F0 X F S s (fun t => a.tmps.getD t undef) w → K av s1 → av.res = true → aZ w0 F0 X aT az s1 (fun t => a.tmps.getD t undef) an → gO w0 X aT az s1 (fun t => a.tmps.getD t undef) an av v → (∀ b, F b → aT b ∧ an.heap[b]? = w.heap[b]?) →
   ∃ s2 ca, L (fin s2 o.dst av) ∧ aZ w0 F0 X aT ca s2 (fun t => a.tmps.getD t undef) an ∧ gO w0 X aT ca s2 (fun t => a.tmps.getD t undef) an av v)
  (aL : ∀ ah bK an, L ah → Rel w0 F0 X n ρ ah bK an → next bK an) : o.wp C.P a w next Q := by
 have kQ := h
 obtain ⟨fe, cB, ey, F, S, aB⟩ := h
 obtain ⟨g, caps, ps, r, U, dE, aa, aw, aH, aX, bD, bI, c4⟩ := hw
 obtain ⟨dst, op, ty, pos, after, guard⟩ := o
 simp only at bq ab mA
 cases op with
 | call c =>
   obtain ⟨callee, jC, argTypes⟩ := c
   simp only [b5] at bq
   split at bq
   ·split at bq
    ·rename_i pP _ _ CW xs bb iZ
     simp only [Option.some.injEq, du.call.injEq] at bq
     obtain ⟨rfl, rfl⟩ := bq
     obtain ⟨f1, f2⟩ := c_ aB (fun _ => rfl) bb
     rw [U, ar] at f2
     obtain ⟨arr, f3, f4⟩ := f2
     have mB : execOp a.eval { dst, op := .call { callee := .value pP, args := jC, argTypes }, type := ty, pos, after, guard } = callFunc g ((jC.toList.map a.eval ++ arr.toList).toArray) := by
      have : a.eval pP = .func (.func g) #[] arr := f3
      simp only [execOp, resolve, this, Deferred.ofValue, pure_bind, invoke]
      congr 1
      apply Array.ext'; simp
     unfold Oper.wp
     rw [mB]
     have pQ : ck w F s (fun t => a.tmps.getD t undef) (xs.map (au s) ++ caps) (jC.toList.map a.eval ++ arr.toList) := xr (q7 aB (fun _ => rfl) _ _ (mv iZ)) f4
     rw [← aa] at pQ
     obtain ⟨fy, l2⟩ := xt pQ
     have ej : ∀ d ∈ xs.map (au s) ++ caps, d.plain = true := by
      intro d ab
      rcases List.mem_append.1 ab with ab | ab
      ·obtain ⟨x, aj, rfl⟩ := List.mem_map.1 ab
       exact vQ s x fun av e => by
        subst e
        have hm := mv iZ
        have : some (aq.c av) ∈ xs.map some := List.mem_map.2 ⟨_, aj, rfl⟩
        rw [← hm] at this
        obtain ⟨o, _, bo⟩ := List.mem_map.1 this
        cases o with
        | const v => simp only [cg, Option.map_eq_some_iff] at bo; obtain ⟨c, af, e⟩ := bo; cases e; exact sP af
        | tmp n => simp [cg] at bo
        | func g => simp [cg] at bo
        | global g => simp [cg] at bo
      ·obtain ⟨k, ai⟩ := List.getElem?_of_mem ab
       exact qL dE ai
     have tL := CK (C := C) aB (ps := ps) (vs := jC.toList.map a.eval ++ arr.toList) (f := g) (r := r) (by simpa using fy)
      (fun i p v al aA => ⟨ej p.a (by rw [← aa]; exact List.mem_map.2 ⟨p, List.mem_of_getElem? al, rfl⟩), l2 i p.a v (by simp [al]) aA⟩) aw aH aX bD bI
     rcases tL with ⟨c5, cr⟩ | ⟨v, an, c5, aT, az, cr, fP, fQ⟩
     ·rw [c5, Oper.upon_enter]
      refine Calls.mono cr ?_
      rintro e an ⟨v, rfl, aT, az, ba, bg, cy⟩
      obtain ⟨s2, ca, dH, eI, fw⟩ := mA _ _ _ _ _ _ _ _ _ aB c4 bD ba bg cy
      exact aL _ _ _ dH (Rel.put fe cB ey eI fw ab)
     ·rw [c5, Oper.upon_value]
      obtain ⟨s2, ca, dH, eI, fw⟩ := mA _ _ _ _ _ _ _ _ _ aB c4 bD cr fP fQ
      exact aL _ _ _ dH (Rel.put fe cB ey eI fw ab)
    ·cases bq
   ·split at bq
    ·simp only [Option.map_eq_some_iff] at bq; obtain ⟨_, _, bq⟩ := bq; cases bq
    ·cases bq
   ·split at bq
    ·simp only [Option.map_eq_some_iff] at bq; obtain ⟨_, _, bq⟩ := bq; cases bq
    ·cases bq
   iterate 3
    ·split at bq
     ·split at bq <;> cases bq
     ·cases bq
   ·cases bq
 | makeFunc fn first cs =>
   cases fn <;> simp only [b5] at bq <;> first | (cases bq; done) | (split at bq <;> simp at bq)
 | slice T x bV ax e_ =>
   cases e_ <;> simp only [b5] at bq <;> first | (cases bq; done) | (split at bq <;> simp at bq)
 | _ => simp only [b5] at bq <;> first | (cases bq; done) | (simp at bq; done) | (split at bq <;> simp at bq)
theorem CX (aJ : C.cP) (h : Rel w0 F0 X n ρ s a w) {o : Oper} {aQ : du} (bq : b5 o.op = some aQ) (ab : hF n o.dst = true) {K : ae → Prop} {next : Act → World → Prop}
  (hw : i1 C s aQ fun av s1 => K (fin s1 o.dst av)) (aL : ∀ ah bK an, K ah → Rel w0 F0 X n ρ ah bK an → next bK an) : o.wp C.P a w next Q := by
 have kQ := h
 obtain ⟨fe, cB, ey, F, S, aB⟩ := h
 have plain : ∀ av s1, aR C s aQ = some (av, s1) → K (fin s1 o.dst av) → o.wp C.P a w next Q := by
  intro av s1 he ai
  obtain ⟨r, an, v, aT, az, U, aa, aw, aH⟩ := wW (a := a) aJ aB (fun _ => rfl) bq he
  unfold Oper.wp
  rw [U]
  rcases aa with rfl | ⟨rfl, rfl⟩
  ·exact aL _ _ _ ai (Rel.put fe cB ey aw aH ab)
  ·exact aL _ _ _ ai (Rel.put fe cB ey aw aH ab)
 cases aQ with
 | shr aQ => exact (CM bq).elim
 | iS T aV x y => exact (CU bq).elim
 | call f args => exact tK aJ ⟨fe, cB, ey, F, S, aB⟩ bq ab (K := fun av s1 => K (fin s1 o.dst av)) hw (fun _ _ _ az _ _ _ s1 _ _ aa _ aw aH _ => ⟨s1, az, aa, aw, aH⟩) aL
 | hV f args u x => exact (CN bq).elim
 | hW f args L => exact (CO bq).elim
 | gQ T x => exact (CP bq).elim
 | lq x => exact (CQ bq).elim
 | kK x => exact (CR bq).elim
 | _ =>
   obtain ⟨av, s1, he, ai⟩ := hw
   exact plain av s1 he ai
theorem gO.share {F : Nat → Prop} {S : Nat → Nat → Prop} {ak : Nat → Value} {v : Value} (h : aZ w0 F0 X F S s ak w) (aA : gO w0 X F S s ak w av v) (aG : av.tree = true) (aL : ∀ vs, av ≠ .tuple vs) :
  ∃ aT, aZ w0 F0 X aT S s ak w ∧ gO w0 X aT S s ak w av.share v := by
 obtain ⟨Sn, eP, ee, gh, fG, lj, mC⟩ : ∃ Sn : Nat → Prop, cp av v ∧ ag w F av (bj v) Sn ∧ (∀ b, Sn b → b < w.heap.size) ∧ (∀ b, Sn b → ¬ F b) ∧ (∀ u b, Sn b → ¬ S u b) ∧ (∀ b, Sn b → X b ∨ w0.heap.size ≤ b) := by
  rcases aA with ⟨U, aa⟩ | ⟨_, aa, Sn, aw, aH, aX, bD, bI⟩
  ·rw [ar.bt aG] at aa
   exact ⟨fun _ => False, aa.1, aa.2, fun _ h => h.elim, fun _ h => h.elim, fun _ _ h => h.elim, fun _ h => h.elim⟩
  ·exact ⟨Sn, aa, aw, aH, aX, bD, bI⟩
 refine ⟨fun b => F b ∨ Sn b, ?_, .inl ⟨tw av, ?_⟩⟩
 ·exact {
   ei := fun b J => .inl (h.ei b J)
   eD := fun b J => by
    rcases J with J | J
    ·exact h.eD b J
    ·exact .inr (mC b J)
   c6 := fun b J => J.elim (h.c6 b) (gh b)
   cL := h.cL
   dk := fun t b J bb => bb.elim (h.dk t b J) (fun R => lj t b R J)
   de := h.de
   cf := h.cf
   cb := fun t => ar.frame (fun _ _ => rfl) (fun b J => .inl J) (fun _ _ _ => rfl) h.cb _ _ _ (fun _ _ => rfl) (h.cb t)
   old := h.old
   size := h.size
   os := h.os
   tape := h.tape
   output := h.output }
 ·by_cases bo : ∃ o, av = .b_ o
  ·obtain ⟨o, rfl⟩ := bo
   rw [j.share, ar]; trivial
  have CY : av.share.tree = true := by cases av <;> first | exact aG | rfl | exact (bo ⟨_, rfl⟩).elim
  rw [ar.bt CY]
  exact ⟨tz aL eP, ag.shared (fun b J => .inl J) av _ Sn (fun b J => .inr J) ee⟩
theorem CZ {op : Op} {T : TypeId} {x : aq} (h : b5 op = some (.da T x)) : ∃ a, op = .box T a ∧ cg a = some x := by
 cases op with
 | box tJ a =>
   simp only [b5, Option.map_eq_some_iff, du.da.injEq] at h
   obtain ⟨y, aY, rfl, rfl⟩ := h
   exact ⟨a, rfl, aY⟩
 | _ =>
   exfalso
   unfold b5 at h
   split at h <;> (try split at h) <;> (try split at h) <;> (try split at h) <;> (try simp [Option.map_eq_some_iff] at h) <;> contradiction
theorem C0 {an : World} {F aT : Nat → Prop} {s s1 : ae} {ak : Nat → Value} (aK : ∀ b, F b → aT b ∧ an.heap[b]? = w.heap[b]?) : ∀ (n : Nat),
  (∀ (d : j) (v : Value) (S : Nat → Prop), SizeOf.sizeOf d ≤ n → d.ep s = true → d.ep s1 = true → ar w F s ak d v S → ar an aT s1 ak d v (fun _ => False)) ∧
  (∀ (ds : List j) (vs : List Value), SizeOf.sizeOf ds ≤ n → j.lz s ds = true → j.lz s1 ds = true → ck w F s ak ds vs → ck an aT s1 ak ds vs) := by
 intro n
 induction n with
 | zero =>
   refine ⟨fun d v S a1 => ?_, fun ds vs a1 => ?_⟩
   ·cases d <;> simp at a1 <;> omega
   ·cases ds <;> simp at a1 <;> omega
 | succ n ih =>
   refine ⟨fun d v S a1 ba bg h => ?_, fun ds vs a1 ba bg h => ?_⟩
   ·cases d with
    | hole => rw [ar]; trivial
    | h x q =>
      simp only [j.ep, Bool.and_eq_true, List.isEmpty_iff] at ba bg
      obtain ⟨rfl, ba⟩ := ba
      rw [ar] at h ⊢
      obtain ⟨bH, a, dq, eb, eN⟩ := h (s x) (by simp only [j.sub]) (kO ba).1
      simp only [bU, Option.some.injEq, Prod.mk.injEq, true_and] at dq
      intro d ab _
      simp only [j.sub, Option.some.injEq] at ab
      subst ab
      exact ⟨bj (ak x), none, by simp only [bU], by rw [eb, ← dq.1], ((kO bg.2).2.2.2.2.2 _).2 (((kO ba).2.2.2.2.2 _).1 eN)⟩
    | al x q => simp [j.ep] at ba
    | J x k =>
      simp only [j.ep, Bool.not_eq_true'] at ba
      rw [ar] at h ⊢
      obtain ⟨b, cur, e, fr, U, aa, aw, aH⟩ := h ba
      exact fun _ => ⟨b, cur, e, fr, U, (aK b aa).1, (aK b aa).2.trans aw, aH⟩
    | fn f cap =>
      simp only [j.ep] at ba bg
      rw [ar] at h ⊢
      obtain ⟨arr, rfl, af⟩ := h
      exact ⟨arr, rfl, ih.2 _ _ (by simp at a1; omega) ba bg af⟩
    | _ =>
      simp only [j.ep] at ba
      have aS := (ar.bt rfl).1 h
      exact (ar.bt rfl).2 ⟨aS.1, ag.mono (fun b J => (aK b J).1) _ _ _ _ (fun _ h => h) (ag.frame (fun b J => (aK b J).2) _ _ _ (fun _ h => h.elim) (ag.plain _ _ _ _ ba aS.2))⟩
   ·cases ds with
    | nil => rw [ck] at h ⊢; exact h
    | cons d ds =>
      simp only [j.lz, Bool.and_eq_true] at ba bg
      rw [ck] at h ⊢
      obtain ⟨v, fE, rfl, U, aa⟩ := h
      simp at a1
      exact ⟨v, fE, rfl, ih.1 _ _ _ (by omega) ba.1 bg.1 U, ih.2 _ _ (by omega) ba.2 bg.2 aa⟩
theorem C1 {s : ae} {d : j} (h : d.ep s = true) : d.plain = true := by
 cases d <;> first | rfl | (simpa [j.ep] using h)
theorem aZ.kP {F : Nat → Prop} {ak : Nat → Value} : ∀ (L : List (Nat × j)) (s : ae) (S : Nat → Nat → Prop), aZ w0 F0 X F S s ak w → (∀ p ∈ L, p.2.plain = true ∧ ar w F s ak p.2 (ak p.1) (fun _ => False)) →
  ∃ az, aZ w0 F0 X F az (b1.kP s L) ak w ∧ ∀ u b, az u b → S u b := by
 intro L
 induction L with
 | nil => intro s S h _; exact ⟨S, h, fun _ _ h => h⟩
 | cons p L ih =>
   intro s S h mA
   obtain ⟨U, aa⟩ := mA p (by simp)
   have cC : b4 ak p.1 (ak p.1) = ak := by funext u; simp only [b4]; split <;> simp_all
   have aw := h.o7 (t := p.1) U aa
   rw [cC] at aw
   have dW : ∀ x, x ≠ p.1 → (b4 s p.1 p.2 x).tree = true → b4 s p.1 p.2 x = s x ∧ ak x = ak x := fun x aj _ => ⟨gd _ _ aj, rfl⟩
   obtain ⟨az, g1, g2⟩ := ih _ _ aw (fun q bR => ⟨(mA q (by simp [bR])).1, (ar.void (t := p.1) dW (by rw [iH]; exact U) _).1 _ _ _ (Nat.le_refl _) (mA q (by simp [bR])).2⟩)
   refine ⟨az, g1, fun u b J => ?_⟩
   have := g2 u b J
   simp only [ed] at this
   split at this
   ·exact this.elim
   ·exact this
theorem tM {s : ae} : ∀ {L : List (Nat × j)}, kc s L = true → ∀ p ∈ L, p.2.ep s = true
 | q :: L, U, p, al => by
   simp only [kc, Bool.and_eq_true] at U
   rcases List.mem_cons.1 al with rfl | al
   ·exact U.1
   ·exact tM U.2 p al
theorem C2 {s : ae} {us : List Nat} {p : Nat × j} (h : p ∈ hG s us) : p.1 ∈ us ∧ s p.1 = p.2 := by
 obtain ⟨u, hu, rfl⟩ := List.mem_map.1 h
 exact ⟨hu, rfl⟩
theorem C3 (aJ : C.cP) (h : Rel w0 F0 X n ρ s a w) {o : Oper} {aQ : du} (bq : ly o.op = aQ.base) (ab : hF n o.dst = true) {K : ae → Prop} {next : Act → World → Prop}
  (hw : i1 C s aQ fun av s1 => K (fin s1 o.dst av)) (aL : ∀ ah bK an, K ah → Rel w0 F0 X n ρ ah bK an → next bK an) : o.wp C.P a w next Q := by
 cases aQ with
 | shr aQ =>
   obtain ⟨av, s1, he, aG, hY, ai⟩ := hw
   rcases kd bq with bq | bq
   ·change aQ = .bad at bq
    subst bq; cases he
   obtain ⟨fe, cB, ey, F, S, aB⟩ := h
   obtain ⟨r, an, v, aT, az, U, aa, aw, aH⟩ := wW (a := a) aJ aB (fun _ => rfl) bq he
   obtain ⟨pN, g3, g4⟩ := gO.share aw aH aG hY
   unfold Oper.wp
   rw [U]
   rcases aa with rfl | ⟨rfl, rfl⟩
   ·exact aL _ _ _ ai (Rel.put fe cB ey g3 g4 ab)
   ·exact aL _ _ _ ai (Rel.put fe cB ey g3 g4 ab)
 | bad => obtain ⟨av, s1, he, _⟩ := hw; cases he
 | hV f args u x =>
   obtain ⟨aC, aF, hw⟩ := hw
   rcases kd bq with J | J
   ·cases J
   ·refine tK aJ h J ab hw ?_ aL
    rintro F S aT az w an av s1 v eP ⟨ee, gh, fG⟩ lj mC pR _
    have qR := eP.cb u
    rw [aC, ar] at qR
    obtain ⟨bH, a0, dq, eb, eN⟩ := qR (s x) (by simp only [j.sub]) (kO aF).1
    simp only [bU, Option.some.injEq, Prod.mk.injEq, true_and] at dq
    have C4 : ∀ y b, ed az u (fun _ => False) y b → az y b := by
     intro y b J
     simp only [ed] at J
     split at J
     ·exact J.elim
     ·exact J
    exact ⟨_, _, fG, mC.alias ee gh (by rw [eb, ← dq.1]) (((kO aF).2.2.2.2.2 _).1 eN), pR.less C4 lj⟩
 | hW f args L =>
   obtain ⟨aF, hw⟩ := hw
   rcases kd bq with J | J
   ·cases J
   ·refine tK aJ h J ab hw ?_ aL
    rintro F S aT az w an av s1 v eP ⟨ee, fG⟩ lj mC pR C5
    obtain ⟨ca, g1, g2⟩ := mC.kP (hG s L) s1 az (fun p al => by
     have c5 := (C2 al).2
     have cr := tM aF p al
     have fP := tM ee p al
     refine ⟨C1 cr, (C0 C5 _).1 _ _ (S p.1) (Nat.le_refl _) cr fP ?_⟩
     have := eP.cb p.1
     rw [c5] at this
     exact this)
    exact ⟨_, ca, fG, g1, pR.less g2 lj⟩
 | gQ T x =>
   obtain ⟨av, s1, he, ai⟩ := hw
   rcases kd bq with J | J
   ·cases J
   ·obtain ⟨cl, jD, aj⟩ := CZ J
    obtain ⟨fe, cB, ey, F, S, aB⟩ := h
    obtain ⟨dst, op, ty, pos, after, guard⟩ := o
    simp only at jD ab ai
    subst jD
    obtain ⟨r, an, v, aT, az, U, aa, aw, aH⟩ : Next C w0 F0 X (fun t => a.tmps.getD t undef) w (execOp a.eval ⟨dst, .box T cl, ty, pos, after, guard⟩) av s1 := (A0 (T := T) aB (c_ aB (fun _ => rfl) aj).2 he).next
    unfold Oper.wp
    rw [U]
    rcases aa with rfl | ⟨rfl, rfl⟩
    ·exact aL _ _ _ ai (Rel.put fe cB ey aw aH ab)
    ·exact aL _ _ _ ai (Rel.put fe cB ey aw aH ab)
 | kK x =>
   obtain ⟨av, s1, he, ai⟩ := hw
   rcases kd bq with J | J
   ·cases J
   ·obtain ⟨cl, jD, aj⟩ := CS J
    obtain ⟨fe, cB, ey, F, S, aB⟩ := h
    obtain ⟨dst, op, ty, pos, after, guard⟩ := o
    simp only at jD ab ai
    subst jD
    simp only [aR] at he
    obtain ⟨g1, g2⟩ := c_ aB (fun _ => rfl) aj
    obtain ⟨r, an, v, aT, az, U, aa, aw, aH⟩ : Next C w0 F0 X (fun t => a.tmps.getD t undef) w (execOp a.eval ⟨dst, .move cl, ty, pos, after, guard⟩) av s1 := by
     unfold j8 at he
     split at he
     ·rename_i y q aY
      rw [aY] at g1 g2
      obtain ⟨a_, k0, ba, bg, Sn, cy, b2, cM, c0, e4, _⟩ := jX aB g1 g2 he
      exact ⟨_, w, _, F, a_, rfl, .inl rfl, k0, .inr ⟨ba, bg, Sn, cy, b2, cM, c0, e4⟩⟩
     ·simp only [Option.some.injEq, Prod.mk.injEq] at he
      obtain ⟨rfl, rfl⟩ := he
      exact ⟨_, w, _, F, S, rfl, .inl rfl, aB, .inl ⟨g1, g2⟩⟩
    unfold Oper.wp
    rw [U]
    rcases aa with rfl | ⟨rfl, rfl⟩
    ·exact aL _ _ _ ai (Rel.put fe cB ey aw aH ab)
    ·exact aL _ _ _ ai (Rel.put fe cB ey aw aH ab)
 | lq x =>
   obtain ⟨av, s1, he, ai⟩ := hw
   rcases kd bq with J | J
   ·cases J
   ·obtain ⟨cl, jD, aj⟩ := CT J
    obtain ⟨fe, cB, ey, F, S, aB⟩ := h
    obtain ⟨dst, op, ty, pos, after, guard⟩ := o
    simp only at jD ab ai
    subst jD
    simp only [aR, Option.some.injEq, Prod.mk.injEq] at he
    obtain ⟨rfl, rfl⟩ := he
    obtain ⟨g1, g2⟩ := c_ aB (fun _ => rfl) aj
    obtain ⟨r, an, v, aT, az, U, aa, aw, aH⟩ : Next C w0 F0 X (fun t => a.tmps.getD t undef) w (execOp a.eval ⟨dst, .assign cl, ty, pos, after, guard⟩) (au s x) s := ⟨_, w, _, F, S, rfl, .inl rfl, aB, .inl ⟨g1, g2⟩⟩
    unfold Oper.wp
    rw [U]
    rcases aa with rfl | ⟨rfl, rfl⟩
    ·exact aL _ _ _ ai (Rel.put fe cB ey aw aH ab)
    ·exact aL _ _ _ ai (Rel.put fe cB ey aw aH ab)
 | iS T aV x y =>
   obtain ⟨av, s1, he, ai⟩ := hw
   rcases kd bq with J | J
   ·cases J
   ·obtain ⟨cl, gy, jD, aj, aY⟩ := CV J
    obtain ⟨fe, cB, ey, F, S, aB⟩ := h
    simp only [aR, Option.map_eq_some_iff, Prod.mk.injEq] at he
    obtain ⟨d, ea, rfl, rfl⟩ := he
    obtain ⟨v, an, aT, az, U, aa, aw⟩ := BM (ty := o.type) aJ aB (c_ aB (fun _ => rfl) aj).2 (c_ aB (fun _ => rfl) aY).2 ea
    have mB : execOp a.eval o = (do pure (.value (← Builtin.append_ #[T, aV] o.type #[a.eval cl, a.eval gy]))) := by
     obtain ⟨dst, op, ty, pos, after, guard⟩ := o
     simp only at jD
     subst jD
     simp [execOp, resolve, invoke, builtin]
    unfold Oper.wp
    rw [mB]
    simp only [Sem.run_bind, U, Result.andThen]
    exact aL _ _ _ ai (Rel.put fe cB ey aa aw ab)
 | _ =>
   rcases kd bq with J | J
   ·cases J
   ·exact CX aJ h J ab hw aL
end
end Go.b1
