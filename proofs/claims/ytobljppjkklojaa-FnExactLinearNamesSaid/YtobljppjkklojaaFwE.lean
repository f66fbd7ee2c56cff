/- Part of a proof that a law returns true for every input. No condition. -/
import Derived.Test.YtobljppjkklojaaFwD
import Derived.Laws.Tables
namespace Go.cM
section
variable {C : bN} {w0 w : World} {F0 X F : Nat → Prop} {S : Nat → Nat → Prop} {s s1 : ag} {au : Nat → Value} {av : j}
theorem uc (z : List Value) : ∀ n, (List.range (n * z.length)).map (fun i => z[i % z.length]!) = (List.replicate n z).flatten
 | 0 => by simp
 | n + 1 => by
   rw [Nat.add_mul, Nat.one_mul, List.range_add, List.map_append, uc z n, List.replicate_succ', List.flatten_append]
   congr 1
   simp only [List.map_map, List.flatten_cons, List.flatten_nil, List.append_nil]
   apply List.ext_getElem
   ·simp
   ·intro i aa ab
    have az : i < z.length := ab
    simp [Nat.mod_eq_of_lt az, az]
theorem aU.replicate {d : j} {cs : List Value} (h : ∀ aH, aq w F d cs aH) : ∀ n aH, aU w F (List.replicate n d) (List.replicate n cs).flatten aH
 | 0, aH => by simp only [List.replicate_zero, List.flatten_nil]; rw [aU]
 | n + 1, aH => by
   rw [List.replicate_succ, List.replicate_succ, List.flatten_cons, aU]
   exact ⟨cs, _, fun _ => False, fun _ => False, rfl, h _, aU.replicate h n _, fun _ h => h.elim, fun _ h => h.elim, fun _ h => h.elim⟩
def eH (C : bN) (T : TypeId) (l c : j) : Option j :=
 match (C.T T).k, l, c with
 | .slice e, .int .i64 n, .int .i64 m => if n = m ∧ 0 ≤ n ∧ (C.T e).ok = true ∧ (C.T e).zero.wd = (C.T e).sz ∧ (flat (C.T e).zero).isSome = true ∧ (C.T e).sz ≠ 0 ∧ (C.T e).bytes * n ≤ 140737488355328 ∧ n ≤ 9223372036854775807 then
   some (.ay (C.T e).sz (List.replicate n.toNat (C.T e).zero)) else none
 | _, _, _ => none
theorem Hj (bm : C.Ok) (h : bB w0 F0 X F S s au w) {T : TypeId} {l c : j} {AF AG : Value} (hl : aF w F s au l AF (fun _ => False)) (aj : aF w F s au c AG (fun _ => False)) (he : eH C T l c = some av) :
  Good C w0 F0 X au w (Instr.makeSlice T AF AG) av s := by
 unfold eH at he
 split at he
 ·rename_i e n m aw
  have := m1 hl; subst this
  have := m1 aj; subst this
  obtain ⟨xm, d, xn, aJ, aT, bb, cn, c1, b6, bS⟩ := bm.info (fs aw (by simp))
  rw [aw] at bS
  have := jc bS; subst this
  split at he
  ·rename_i oz
   obtain ⟨rfl, bh, lX, my, m5, dI, AH, xp⟩ := oz
   simp only [Option.some.injEq] at he; subst he
   obtain ⟨i, xo, z, f1, f2, f3, f4, f5, f6, f7⟩ := bm.info lX
   obtain ⟨dQ, kh⟩ := Option.isSome_iff_exists.1 m5
   have m6 := f5 dQ kh
   have gZ : ∀ aH, aq w F (C.T e).zero dQ aH := fun aH => (aq.flat _).1 _ dQ aH (Nat.le_refl _) kh
   have lZ : dQ.length = (C.T e).sz := by rw [aq.length _ _ _ (gZ (fun _ => False)), my]
   obtain ⟨n, rfl⟩ := Int.eq_ofNat_of_zero_le bh
   simp only [Int.toNat_natCast]
   have p0 : IntKind.i64.wrap (n : Int) = n := by
    rw [IntKind.wrap_i64]; omega
   have pY : ∀ k (w : World), (askRoom k).run C.P w = .ok () w := by
    intro k w
    unfold askRoom
    split <;> rfl
   have m0 : ((Array.range (n * (C.T e).sz)).map (dQ.toArray[· % dQ.toArray.size]!)).toList = (List.replicate n dQ).flatten := by
    have := uc dQ n
    rw [lZ] at this
    simpa [lZ] using this
   have dL : ¬ (281474976710656 < (i.bytes : Int) * n) := by
    rw [f3]; omega
   have ud : ¬ ((n : Int) < 0) := by omega
   have run : (Instr.makeSlice T (.int .i64 n) (.int .i64 n)).run C.P w = .ok (.slice (some ⟨w.heap.size, 0, none⟩) n n)
     (w.alloc (.cells (if n * (C.T e).sz = 0 then (Array.range (n * (C.T e).sz)).map (fun _ => default) else (Array.range (n * (C.T e).sz)).map (dQ.toArray[· % dQ.toArray.size]!)) e)) := by
    by_cases bp : n * (C.T e).sz = 0
    ·simp [Instr.makeSlice, run_underlying b6, asInt, asIntOf, ou f1, p0, dL, ud, pY, iI f1, f2, bp, newRow]
    ·simp only [bp, if_false]
     simp [Instr.makeSlice, run_underlying b6, asInt, asIntOf, ou f1, p0, dL, ud, pY, iI f1, f2, bp, newRow, rH f1 f4, m6]
   have i9 : (if n * (C.T e).sz = 0 then (Array.range (n * (C.T e).sz)).map (fun _ => (default : Value)) else (Array.range (n * (C.T e).sz)).map (dQ.toArray[· % dQ.toArray.size]!)).toList = (List.replicate n dQ).flatten := by
    split
    ·rename_i bp
     have : n = 0 := by
      rcases Nat.mul_eq_zero.1 bp with h | h
      ·exact h
      ·exact (dI h).elim
     subst this
     simp
    ·exact m0
   generalize oI : (if n * (C.T e).sz = 0 then (Array.range (n * (C.T e).sz)).map (fun _ => (default : Value)) else (Array.range (n * (C.T e).sz)).map (dQ.toArray[· % dQ.toArray.size]!)) = cur at run i9
   have ju : (List.replicate n dQ).flatten.length = n * (C.T e).sz := by simp [lZ]
   have hF : cur.size = n * (C.T e).sz := by
    have : cur.size = cur.toList.length := by simp
    rw [this, i9, ju]
   have iV := h.rO (aB := w.alloc (.cells cur e)) (sz := (C.T e).sz) (cap := n) (xs := List.replicate n (C.T e).zero) (cur := cur) (e := e) (fr := (0, 0)) (Sn := fun _ => False) rfl rfl rfl rfl
    (fun o _ ⟨_, ab⟩ => absurd ab (Nat.not_lt_zero _)) (by simp) (by unfold maxLen; omega) hF (by intro d af; rw [List.eq_of_mem_replicate af]; exact my)
    (by rw [i9, List.length_replicate, List.take_of_length_le (by rw [ju]; exact Nat.le_refl _)]; exact aU.replicate gZ n _) (fun _ h => h.elim) (fun _ h => h.elim) (fun _ _ h => h.elim) (fun _ h => h.elim)
   rw [List.length_replicate] at iV
   exact ⟨_, _, F, S, run, iV.1, iV.2⟩
  ·cases he
 ·cases he
def hH (C : bN) (T bn : TypeId) (x y : j) : Option j :=
 match (C.T T).k, (C.T bn).k, x, y with
 | .slice e, .int _, .a_, .int .i64 n => if 0 ≤ n ∧ (C.T e).ok = true ∧ (C.T e).zero.wd = (C.T e).sz ∧ (flat (C.T e).zero).isSome = true ∧ (C.T e).sz ≠ 0 ∧ (C.T e).bytes * n ≤ 140737488355328 ∧ n ≤ 9223372036854775807 then
   some (.ay (C.T e).sz (List.replicate n.toNat (C.T e).zero)) else none
 | _, _, _, _ => none
theorem Hk {P : Program} {T bn ty e : TypeId} {k : IntKind} {i : TypeInfo} {z : Value} (aP : P.underlying T = some (.slice e)) (hu : P.underlying bn = some (.int k)) (az : P.info? e = some i) (bw : i.zero = some z)
  (n : Nat) (bp : n ≠ 0) (U : i.size ≠ 0) (bh : n ≤ 9223372036854775807) (J : n * i.bytes ≤ 140737488355328) :
  (Builtin.append_ #[T, bn] ty #[.slice none 0 0, .int .i64 n]).run P w = .ok (.slice (some ⟨w.heap.size, 0, none⟩) n (grownCap w n 0 e))
   (w.drew.alloc (.cells (Builtin.zeroCells z.cells n ++ Builtin.zeroCells z.cells (grownCap w n 0 e - n)) e)) := by
 have p0 : IntKind.i64.wrap (n : Int) = n := by rw [IntKind.wrap_i64]; omega
 have ud : ¬ ((n : Int) < 0) := by omega
 have hmul : (n : Int) * (i.bytes : Int) = ((n * i.bytes : Nat) : Int) := by simp
 have dL : ¬ (281474976710656 < (n : Int) * (i.bytes : Int)) := by rw [hmul]; omega
 have iu : ¬ (281474976710656 < Builtin.nextslicecap n 0 * i.bytes) := by
  have : Builtin.nextslicecap n 0 = n := by unfold Builtin.nextslicecap; rw [if_pos (by omega)]
  rw [this]; omega
 have pY : ∀ k (w : World), (askRoom k).run P w = .ok () w := by
  intro k w
  unfold askRoom
  split <;> rfl
 have xj : ¬ (9223372036854775807 < (n : Int)) := by omega
 have xr : n * i.size ≠ 0 := Nat.mul_ne_zero bp U
 simp [Builtin.append_, run_underlying aP, run_underlying hu, iI az, ou az, asInt, asIntOf, p0, ud, dL, iu, bp, Question.forced, pY, xj, rH az bw, newRow, grownCap, Builtin.firstCells]
 intro kd; exact (xr kd).elim
theorem Hl (bm : C.Ok) (h : bB w0 F0 X F S s au w) {T bn ty : TypeId} {x y : j} {iv hQ : Value} (ai : aF w F s au x iv (fun _ => False)) (bC : aF w F s au y hQ (fun _ => False)) (he : hH C T bn x y = some av) :
  Good C w0 F0 X au w (Builtin.append_ #[T, bn] ty #[iv, hQ]) av s := by
 unfold hH at he
 split at he
 ·rename_i e Z1 n aw AJ
  have := m2 ai; subst this
  have := m1 bC; subst this
  obtain ⟨xm, d, xn, aJ, aT, bb, cn, c1, b6, bS⟩ := bm.info (fs aw (by simp))
  rw [aw] at bS
  have := jc bS; subst this
  obtain ⟨Z2, Z3, Z4, AK, AL, Z5, Z6, Z7, AM, AN⟩ := bm.info (fs AJ (by simp))
  rw [AJ] at AN
  have := tN AN; subst this
  split at he
  ·rename_i oz
   obtain ⟨bh, lX, my, m5, dI, AH, xp⟩ := oz
   simp only [Option.some.injEq] at he; subst he
   obtain ⟨i, xo, z, f1, f2, f3, f4, f5, f6, f7⟩ := bm.info lX
   obtain ⟨dQ, kh⟩ := Option.isSome_iff_exists.1 m5
   have m6 := f5 dQ kh
   have gZ : ∀ aH, aq w F (C.T e).zero dQ aH := fun aH => (aq.flat _).1 _ dQ aH (Nat.le_refl _) kh
   have lZ : dQ.length = (C.T e).sz := by rw [aq.length _ _ _ (gZ (fun _ => False)), my]
   obtain ⟨n, rfl⟩ := Int.eq_ofNat_of_zero_le bh
   simp only [Int.toNat_natCast]
   by_cases bp : n = 0
   ·subst bp
    have run : (Builtin.append_ #[T, bn] ty #[.slice none 0 0, .int .i64 ((0 : Nat) : Int)]).run C.P w = .ok (.slice none 0 0) w := by
     have p0 : IntKind.i64.wrap 0 = 0 := by decide
     simp [Builtin.append_, run_underlying b6, run_underlying AM, iI f1, ou f1, asInt, asIntOf, p0]
    exact ⟨_, w, F, S, run, h, .inr ⟨rfl, rfl, fun _ => False, by simp only [ch, gx]; rw [aq]; exact .inl ⟨rfl, _, rfl⟩, fun _ h => h.elim, fun _ h => h.elim, fun _ _ h => h.elim, fun _ h => h.elim⟩⟩
   ·have run := Hk (w := w) (ty := ty) b6 AM f1 f4 n bp (by rw [f2]; exact dI) (by omega) (by
     rw [f3]
     have : ((C.T e).bytes : Int) * (n : Int) = (((C.T e).bytes * n : Nat) : Int) := by simp
     rw [this] at AH
     rw [Nat.mul_comm]; omega)
    rw [m6] at run
    have pT := grownCap_ge w n 0 e
    have rR := grownCap_le_maxLen w n 0 e (by unfold maxLen; omega)
    have AO : ∀ m, (Builtin.zeroCells dQ.toArray m).toList = (List.replicate m dQ).flatten := by
     intro m
     have := uc dQ m
     unfold Builtin.zeroCells
     simpa [lZ] using this
    have ju : ∀ m, (List.replicate m dQ).flatten.length = m * (C.T e).sz := by intro m; simp [lZ]
    generalize oI : Builtin.zeroCells dQ.toArray n ++ Builtin.zeroCells dQ.toArray (grownCap w n 0 e - n) = cur at run
    have i9 : cur.toList = (List.replicate n dQ).flatten ++ (List.replicate (grownCap w n 0 e - n) dQ).flatten := by rw [← oI, Array.toList_append, AO, AO]
    have hF : cur.size = grownCap w n 0 e * (C.T e).sz := by
     have : cur.size = cur.toList.length := by simp
     rw [this, i9, List.length_append, ju, ju, ← Nat.add_mul]
     congr 1; omega
    have iV := h.rO (aB := w.drew.alloc (.cells cur e)) (sz := (C.T e).sz) (cap := grownCap w n 0 e) (xs := List.replicate n (C.T e).zero) (cur := cur) (e := e) (fr := (0, 0)) (Sn := fun _ => False) rfl rfl rfl rfl
     (fun o _ ⟨_, ab⟩ => absurd ab (Nat.not_lt_zero _)) (by simpa using pT) rR hF (by intro d af; rw [List.eq_of_mem_replicate af]; exact my)
     (by rw [i9, List.length_replicate, List.take_left' (ju n)]; exact aU.replicate gZ n _) (fun _ h => h.elim) (fun _ h => h.elim) (fun _ _ h => h.elim) (fun _ h => h.elim)
    rw [List.length_replicate] at iV
    exact ⟨_, _, F, S, run, iV.1, iV.2⟩
  ·cases he
 ·cases he
def h5 (s : ag) (f : FuncId) (cs : List ax) : Option j := some (.fn f (cs.map (aD s)))
theorem ue {a : Act} (h : bB w0 F0 X F S s au w) (dD : ∀ t, au t = a.tmps.getD t undef) : ∀ (os : List Operand) (xs : List ax), os.map c9 = xs.map some → dC w F s au (xs.map (aD s)) (os.map a.eval)
 | [], [], _ => by simp only [List.map_nil]; rw [dC]
 | [], x :: xs, h => by simp at h
 | o :: os, [], h => by simp at h
 | o :: os, x :: xs, bq => by
   simp only [List.map_cons, List.cons.injEq] at bq ⊢
   rw [dC]
   exact ⟨_, _, rfl, (eU h dD bq.1).2, ue h dD os xs bq.2⟩
theorem AP : ∀ (vs : List Value) (k off : Nat) (A : Array Value) (l m r : List Value), A.toList = l ++ (m ++ r) → l.length = off + k → m.length = vs.length →
  ((vs.zipIdx k).foldl (fun cs (x : Value × Nat) => cs.setIfInBounds (off + x.2) x.1) A).toList = l ++ (vs ++ r)
 | [], k, off, A, l, m, r, hd, hl, hm => by
   have : m = [] := by simpa using hm
   subst this
   simpa using hd
 | v :: vs, k, off, A, l, m, r, hd, hl, hm => by
   obtain ⟨x, m, rfl⟩ : ∃ x h3, m = x :: h3 := by
    cases m with
    | nil => simp at hm
    | cons x m => exact ⟨x, m, rfl⟩
   rw [List.zipIdx_cons, List.foldl_cons]
   have := AP vs (k + 1) off (A.setIfInBounds (off + k) v) (l ++ [v]) m r (by
    rw [Array.toList_setIfInBounds, hd, ← hl, List.set_append_right _ _ (Nat.le_refl _)]
    simp) (by simp; omega) (by simpa using hm)
   simpa using this
def ll (os : List (Option Nat)) (a : j) : j := os.foldl (fun a o => iU o a) a
def ln (place : Nat → Option (Nat × Nat)) : ag → List j → List (Option Nat) → List (Nat × j) → Option (List j × ag)
 | s, zs, _, [] => some (zs, s)
 | s, zs, os, (k, a) :: r => match cd s (ll os a), place k, zs[k]? with
   | some (d, s1), some (off, n), some z => match d with
     | .tuple _ => none
     | d => if d.wd = n ∧ z.wd = n ∧ j.dm (zs.take k) = off then ln place s1 (zs.set k d) (os ++ [(ll os a).owner]) r else none
   | _, _, _ => none
def lo (w : World) (F : Nat → Prop) (s : ag) (au : Nat → Value) : List (Nat × j) → List (Nat × Value) → Prop
 | [], [] => True
 | (k, a) :: r, (dh, v) :: g0 => k = dh ∧ a.plain = true ∧ aF w F s au a v (fun _ => False) ∧ lo w F s au r g0
 | _, _ => False
theorem Hm (x : Nat) : ∀ d : j, d.plain = true → (bJ x d).plain = true
 | .h y q, _ => by simp only [bJ]; split <;> (try split) <;> rfl
 | .ao y q, _ => by simp only [bJ]; split <;> rfl
 | .J y q, _ => rfl
 | .fn f c, _ => by simp only [bJ]; rfl
 | .hole, h => h
 | .bool _, h => h
 | .dO, h => h
 | .int _ _, h => h
 | .str _, h => h
 | .cW, h => h
 | .a_, h => h
 | .slice _, h => h
 | .ay _ _, h => h
 | .ref _, h => h
 | .bD _, h => h
 | .agg _, h => h
 | .tuple _, h => h
theorem Hn (o : Option Nat) (d : j) (h : d.plain = true) : (iU o d).plain = true := by
 cases o with
 | none => exact h
 | some x => exact Hm x d h
theorem lo.bJ {w : World} {F : Nat → Prop} {s s1 : ag} {au : Nat → Value} {o : Option Nat} (ao : ∀ (bj : j) (e8 : Value) (aH : Nat → Prop), aF w F s au bj e8 aH → aF w F s1 au (iU o bj) e8 aH) :
  ∀ (r : List (Nat × j)) (g0 : List (Nat × Value)), lo w F s au r g0 → lo w F s1 au (r.map fun p => (p.1, iU o p.2)) g0
 | [], [], _ => trivial
 | (k, a) :: r, (dh, v) :: g0, h => by
   obtain ⟨aa, ab, aE, aZ⟩ := h
   exact ⟨aa, Hn _ _ ab, ao _ _ _ aE, lo.bJ ao r g0 aZ⟩
 | [], _ :: _, h => h.elim
 | _ :: _, [], h => h.elim
theorem xt {place : Nat → Option (Nat × Nat)} : ∀ (ps : List (Nat × j)) (vs : List (Nat × Value)) (os : List (Option Nat)) (s : ag) (S : Nat → Nat → Prop) (zs : List j) (A : Array Value) (fP : Nat → Prop),
  bB w0 F0 X F S s au w → lo w F s au (ps.map fun p => (p.1, ll os p.2)) vs → aU w F zs A.toList fP → (∀ b, fP b → b < w.heap.size) → (∀ b, fP b → ¬ F b) → (∀ u b, fP b → ¬ S u b) → (∀ b, fP b → X b ∨ w0.heap.size ≤ b) →
  ∀ ds s1, ln place s zs os ps = some (ds, s1) → ∃ jY bW fg, Instr.fill place A vs = some jY ∧ bB w0 F0 X F bW s1 au w ∧ aU w F ds jY.toList fg ∧ (∀ b, fg b → b < w.heap.size) ∧ (∀ b, fg b → ¬ F b) ∧ (∀ u b, fg b → ¬ bW u b) ∧
    (∀ b, fg b → X b ∨ w0.heap.size ≤ b) ∧ ds.length = zs.length ∧ j.dm ds = j.dm zs ∧ (∀ n, (∀ d ∈ zs, d.wd = n) → ∀ d ∈ ds, d.wd = n)
 | [], [], os, s, S, zs, A, fP, h, _, aa, ab, aE, aZ, bG, ds, s1, he => by
   simp only [ln, Option.some.injEq, Prod.mk.injEq] at he
   obtain ⟨rfl, rfl⟩ := he
   exact ⟨A, S, fP, rfl, h, aa, ab, aE, aZ, bG, rfl, rfl, fun _ h => h⟩
 | (k, a) :: ps, (dh, v) :: vs, os, s, S, zs, A, fP, h, ao, aa, ab, aE, aZ, bG, ds, s1, he => by
   obtain ⟨rfl, iX, lU, rW⟩ := ao
   simp only [ln] at he
   split at he
   ·rename_i d rX off n z aP gj bw
    have key : ∀ d : j, (∀ al, d ≠ .tuple al) → cd s (ll os a) = some (d, rX) → (if d.wd = n ∧ z.wd = n ∧ j.dm (zs.take k) = off then ln place rX (zs.set k d) (os ++ [(ll os a).owner]) ps else none) = some (ds, s1) →
      ∃ jY bW fg, Instr.fill place A ((k, v) :: vs) = some jY ∧ bB w0 F0 X F bW s1 au w ∧ aU w F ds jY.toList fg ∧ (∀ b, fg b → b < w.heap.size) ∧ (∀ b, fg b → ¬ F b) ∧ (∀ u b, fg b → ¬ bW u b) ∧
      (∀ b, fg b → X b ∨ w0.heap.size ≤ b) ∧ ds.length = zs.length ∧ j.dm ds = j.dm zs ∧ (∀ n, (∀ d ∈ zs, d.wd = n) → ∀ d ∈ ds, d.wd = n) := by
     intro d mX aP he
     split at he
     ·rename_i aj
      obtain ⟨uf, ov, AQ⟩ := aj
      obtain ⟨bW, fQ, aV, bo, Sn, b8, dn, eg, gA, ha, jv, rT, ua⟩ := nw h iX lU aP
      obtain ⟨bT, eR, b4, Sx, iE, hd, gw, fI, ga, gV, fC, kb⟩ := aU.pick zs _ _ k z aa bw
      have m0 := tU bo mX
      have mA := aq.length _ _ _ b8
      have AR := aq.length _ _ _ fC
      have nA := kb w d (ch v) Sn (fun _ _ => rfl) (fun _ _ => rfl) b8 (fun b Ho Hp => by obtain ⟨u, hu⟩ := rT b Ho; exact aZ u b (fI b Hp) hu)
      have AS := AP (ch v) 0 off A bT eR b4 hd (by rw [gw, AQ]; rfl) (by rw [AR, mA, uf, ov])
      generalize rY : ((ch v).zipIdx 0).foldl (fun cs (x : Value × Nat) => cs.setIfInBounds (off + x.2) x.1) A = xu at AS
      obtain ⟨jY, c6, fg, en, fl, hb, kC, lb, dk, mZ, ez, xv, ug⟩ := xt (place := place) ps vs (os ++ [(ll os a).owner]) rX bW (zs.set k d) xu (fun b => Sx b ∨ Sn b) fQ (by have := lo.bJ ua _ _ rW; simpa [ll, List.foldl_append, Function.comp_def] using this) (by rw [AS]; exact nA)
       (by rintro b (J | J); exact ab b (fI b J); exact dn b J) (by rintro b (J | J); exact aE b (fI b J); exact eg b J)
       (by rintro u b (J | J); exact fun hu => aZ u b (fI b J) (jv u b hu); exact gA u b J) (by rintro b (J | J); exact bG b (fI b J); exact ha b J) ds s1 he
      refine ⟨jY, c6, fg, ?_, fl, hb, kC, lb, dk, mZ, by rw [ez]; simp, by rw [xv]; exact wN _ _ _ _ bw (by rw [uf, ov]), ?_⟩
      ·have xw : off + n ≤ A.size := by
        have : A.size = A.toList.length := by simp
        rw [this, hd]; simp [gw, AQ, AR, ov]
       simp only [Instr.fill, gj, m0, List.size_toArray, mA, uf]
       have la : ¬ (n ≠ n ∨ A.size < off + n) := by omega
       have Hq : (ch v).toArray.zipIdx.foldl (fun cs (x : Value × Nat) => cs.setIfInBounds (off + x.2) x.1) A = xu := by
        rw [← rY, ← Array.foldl_toList]; simp
       simp only [ne_eq, not_true_eq_false, decide_false, Bool.false_or, decide_eq_true_eq, gt_iff_lt]
       rw [if_neg (by simp; omega)]
       rw [show (ch v).toArray.zipIdx.foldl (fun cs x => match x with | (c, ar) => cs.setIfInBounds (off + ar) c) A = xu from Hq]
       exact en
      ·intro Hr rZ
       refine ug Hr (wO rZ ?_)
       rw [uf, ← ov]; exact rZ z (List.mem_of_getElem? bw)
     ·cases he
    split at he
    ·cases he
    ·rename_i mX
     exact key _ (fun al e => mX al e) aP he
   ·cases he
 | [], _ :: _, _, _, _, _, _, _, _, ao, _, _, _, _, _, _, _, _ => ao.elim
 | _ :: _, [], _, _, _, _, _, _, _, ao, _, _, _, _, _, _, _, _ => ao.elim
def ft (C : bN) (s : ag) (T : TypeId) (ps : List (Nat × j)) : Option (j × ag) :=
 match (C.T T).k, (C.T T).zero with
 | .struct al, .agg zs => if (flat (.agg zs)).isSome = true ∧ (∀ f ∈ al, (C.T f.1).ok = true) then
   (match ln (fun k => (al[k]?).map fun f => (f.2, (C.T f.1).sz)) s zs [] ps with
   | some (ds, s1) => some (.agg ds, s1)
   | none => none) else none
 | _, _ => none
def c_ (C : bN) (s : ag) (T : TypeId) (n : Nat) (ps : List (Nat × j)) : Option (j × ag) :=
 match (C.T T).k with
 | .slice e => if (C.T e).ok = true ∧ (C.T e).zero.wd = (C.T e).sz ∧ (flat (C.T e).zero).isSome = true ∧ (C.T e).sz ≠ 0 ∧ n * (C.T e).sz ≤ 16777216 then
   (match ln (fun k => some (k * (C.T e).sz, (C.T e).sz)) s (List.replicate n (C.T e).zero) [] ps with
   | some (ds, s1) => some (.ay (C.T e).sz ds, s1)
   | none => none) else none
 | _ => none
theorem Hs (bm : C.Ok) : ∀ (gs : List Field), (∀ g ∈ gs, (C.T g.type).ok = true) →
  gs.mapM (fun f => (C.P.info? f.type).map fun i => (f.offset, i.size)) = some (gs.map fun g => (g.offset, (C.T g.type).sz)) := by
 intro gs
 induction gs with
 | nil => intro _; simp
 | cons g gs ih =>
   intro bH
   obtain ⟨i, d, z, f1, f2, f3, f4, f5, f6, f7⟩ := bm.info (bH g (by simp))
   have := ih (fun g fR => bH g (by simp [fR]))
   simp [List.mapM_cons, f1, f2, this]
theorem Ht (bm : C.Ok) (h : bB w0 F0 X F S s au w) {T : TypeId} {ps : List (Nat × j)} {vs : List (Nat × Value)} (ao : lo w F s au ps vs) (he : ft C s T ps = some (av, s1)) :
  Good C w0 F0 X au w (Instr.build T vs.toArray) av s1 := by
 unfold ft at he
 split at he
 ·rename_i al zs aw bw
  split at he
  ·rename_i aj
   obtain ⟨m5, Hu⟩ := aj
   split at he
   ·rename_i ds s2 ju
    simp only [Option.some.injEq, Prod.mk.injEq] at he
    obtain ⟨rfl, rfl⟩ := he
    obtain ⟨i, d, z, aJ, aT, bb, cn, c1, b6, bS⟩ := bm.info (fs aw (by simp))
    rw [aw] at bS
    obtain ⟨gs, rfl, AU⟩ := w6 bS
    obtain ⟨dQ, kh⟩ := Option.isSome_iff_exists.1 m5
    have m6 := c1 dQ (by rw [bw]; exact kh)
    have gZ : aU w F zs dQ.toArray.toList (fun _ => False) := by
     have := (aq.flat (w := w) (F := F) _).1 (.agg zs) dQ (fun _ => False) (Nat.le_refl _) kh
     rw [aq] at this
     simpa using this
    have dj : lo w F s au (ps.map fun p => (p.1, ll [] p.2)) vs := by simpa [ll] using ao
    obtain ⟨jY, bW, fg, en, fl, hb, kC, lb, dk, mZ, ez, xv, ug⟩ := xt ps vs [] s S zs dQ.toArray (fun _ => False) h dj gZ (fun _ h => h.elim) (fun _ h => h.elim) (fun _ _ h => h.elim) (fun _ h => h.elim) ds s2 ju
    have gj := Hs bm gs.toList (fun g bH => Hu (g.type, g.offset) (by rw [← AU]; exact List.mem_map_of_mem bH))
    have Hv : (fun (k : Nat) => (al[k]?).map fun (f : TypeId × Nat) => (f.2, (C.T f.1).sz)) = fun (k : Nat) => ((gs.toList.map fun g => (g.offset, (C.T g.type).sz)).toArray)[k]? := by
     funext k
     rw [← AU]
     simp only [List.getElem?_map, List.getElem?_toArray, Option.map_map]
     rfl
    rw [Hv] at en
    refine ⟨.agg jY, w, F, bW, run_build w T vs.toArray jY ?_, fl, .inr ⟨rfl, ⟨_, rfl⟩, fg, by simp only [ch, gx]; rw [aq]; exact hb, kC, lb, dk, mZ⟩⟩
    unfold Program.built
    simp only [aJ, b6, cn, gj, m6]
    exact en
   ·cases he
  ·cases he
 ·cases he
theorem Hw (bm : C.Ok) (h : bB w0 F0 X F S s au w) {T : TypeId} {n : Nat} {ps : List (Nat × j)} {vs : List (Nat × Value)} (ao : lo w F s au ps vs) (he : c_ C s T n ps = some (av, s1)) :
  Good C w0 F0 X au w (Instr.buildSlice T n vs.toArray) av s1 := by
 unfold c_ at he
 split at he
 ·rename_i e aw
  split at he
  ·rename_i aj
   obtain ⟨lX, my, m5, dI, Z8⟩ := aj
   split at he
   ·rename_i ds s2 ju
    simp only [Option.some.injEq, Prod.mk.injEq] at he
    obtain ⟨rfl, rfl⟩ := he
    obtain ⟨xm, d, xn, aJ, aT, bb, cn, c1, b6, bS⟩ := bm.info (fs aw (by simp))
    rw [aw] at bS
    have := jc bS; subst this
    obtain ⟨i, xo, z, f1, f2, f3, f4, f5, f6, f7⟩ := bm.info lX
    obtain ⟨dQ, kh⟩ := Option.isSome_iff_exists.1 m5
    have m6 := f5 dQ kh
    have gZ : ∀ aH, aq w F (C.T e).zero dQ aH := fun aH => (aq.flat _).1 _ dQ aH (Nat.le_refl _) kh
    have lZ : dQ.length = (C.T e).sz := by rw [aq.length _ _ _ (gZ (fun _ => False)), my]
    generalize hd : ((Array.range (n * (C.T e).sz)).map ((if n * (C.T e).sz = 0 then #[] else dQ.toArray)[· % (if n * (C.T e).sz = 0 then (#[] : Array Value) else dQ.toArray).size]!)) = A
    have xw : A.toList = (List.replicate n dQ).flatten := by
     rw [← hd]
     by_cases bp : n * (C.T e).sz = 0
     ·have : n = 0 := by
       rcases Nat.mul_eq_zero.1 bp with h | h
       ·exact h
       ·exact (dI h).elim
      subst this
      simp
     ·simp only [bp, if_false]
      have := uc dQ n
      rw [lZ] at this
      simpa [lZ] using this
    have dj : lo w F s au (ps.map fun p => (p.1, ll [] p.2)) vs := by simpa [ll] using ao
    obtain ⟨jY, bW, fg, en, fl, hb, kC, lb, dk, mZ, ez, xv, ug⟩ := xt ps vs [] s S (List.replicate n (C.T e).zero) A (fun _ => False) h dj (by rw [xw]; exact aU.replicate gZ n _) (fun _ h => h.elim) (fun _ h => h.elim) (fun _ _ h => h.elim) (fun _ h => h.elim) ds s2 ju
    have hlen : ds.length = n := by rw [ez]; simp
    have AV := ug (C.T e).sz (by intro d af; rw [List.eq_of_mem_replicate af]; exact my)
    have Hx : jY.toList.length = n * (C.T e).sz := by rw [aU.oF hb AV, hlen]
    have Hy : jY.size = n * (C.T e).sz := by rw [← Hx]; simp
    have Z9 : n ≤ 16777216 := by
     have : n * 1 ≤ n * (C.T e).sz := Nat.mul_le_mul_left _ (by omega)
     omega
    have iV := fl.rO (aB := w.alloc (.cells jY e)) (sz := (C.T e).sz) (cap := n) (xs := ds) (cur := jY) (e := e) (fr := (0, 0)) (Sn := fg) rfl rfl rfl rfl
     (fun o _ ⟨_, ab⟩ => absurd ab (Nat.not_lt_zero _)) (by omega) (by unfold maxLen; omega) Hy AV (by rw [hlen, List.take_of_length_le (by omega)]; exact hb) kC lb dk mZ
    rw [hlen] at iV
    refine ⟨_, _, F, bW, ?_, iV.1, iV.2⟩
    by_cases bp : n * (C.T e).sz = 0
    ·simp only [bp, if_true] at hd
     have p1 : (Array.map (fun _ => (default : Value)) (Array.range 0)) = A := by
      have : n = 0 := by
       rcases Nat.mul_eq_zero.1 bp with h | h
       ·exact h
       ·exact (dI h).elim
      apply Array.ext'
      rw [xw, this]
      simp
     simp [Instr.buildSlice, run_underlying b6, iI f1, f2, bp, newRow]
     rw [p1, en]
     simp
    ·simp only [bp, if_false] at hd
     have la : ¬ (16777216 < n * (C.T e).sz) := by omega
     simp [Instr.buildSlice, run_underlying b6, iI f1, f2, bp, la, rH f1 f4, m6, newRow]
     have p1 : (Array.map (fun x => dQ[x % dQ.length]?.getD default) (Array.range (n * (C.T e).sz))) = A := by
      rw [← hd]; simp
     rw [p1, en]
     simp
   ·cases he
  ·cases he
 ·cases he
end
inductive eD where
 | ae (x : ax)
 | an (x : ax)
 | pick (c a b : ax)
 | eV (T : TypeId)
 | di (T : TypeId) (x : ax)
 | ft (T : TypeId) (ps : List (Nat × ax))
 | c_ (T : TypeId) (n : Nat) (ps : List (Nat × ax))
 | aW (T : TypeId) (x : ax)
 | de (T : TypeId) (x y : ax)
 | dw (x : ax)
 | aK (op : BinOp) (T : TypeId) (x y : ax)
 | un (op : UnOp) (x : ax)
 | ey (A B : TypeId) (x : ax)
 | h5 (f : FuncId) (cs : List ax)
 | eH (T : TypeId) (l c : ax)
 | dx (T : TypeId) (x : ax) (cy az : Option ax)
 | bs (T : TypeId) (x : ax) (k : Nat)
 | cp (T : TypeId) (x i : ax)
 | idx (T : TypeId) (x i : ax)
 | ex (x : ax) (k : Nat)
 | call (f : ax) (args : List ax)
 | len (T : TypeId) (x : ax)
 | app (T bn : TypeId) (x y : ax)
 | shr (bd : eD)
 | hH (T bn : TypeId) (x y : ax)
 | cap (T : TypeId) (x : ax)
 | mB (g8 : Bool) (x y : ax)
 | bad
 | ki (f : ax) (args : List ax) (u x : Nat)
 | jg (f : ax) (args : List ax) (us : List Nat)
 | h4 (T : TypeId) (x : ax)
def eD.base : eD → eD
 | .shr bd => bd
 | .hH T bn x y => .app T bn x y
 | .ki f args _ _ => .call f args
 | .jg f args _ => .call f args
 | .h4 T x => .di T x
 | bd => bd
def p2 : List Operand → Option (List ax)
 | [] => some []
 | o :: os => match c9 o, p2 os with
   | some x, some xs => some (x :: xs)
   | _, _ => none
def p3 : List (Nat × Operand) → Option (List (Nat × ax))
 | [] => some []
 | (k, o) :: os => match c9 o, p3 os with
   | some x, some xs => some ((k, x) :: xs)
   | _, _ => none
def r0 : Option Operand → Option (Option ax)
 | none => some none
 | some o => (c9 o).map some
def da : Op → Option eD
 | .move x => (c9 x).map .ae
 | .assign x => (c9 x).map .an
 | .pick c a b => match c9 c, c9 a, c9 b with
   | some c, some a, some b => some (.pick c a b)
   | _, _, _ => none
 | .alloc T => some (.eV T)
 | .box T x => (c9 x).map (.di T)
 | .build T ps => (p3 ps.toList).map (.ft T)
 | .buildSlice T n ps => (p3 ps.toList).map (.c_ T n)
 | .load T x => (c9 x).map (.aW T)
 | .store T x y => match c9 x, c9 y with
   | some x, some y => some (.de T x y)
   | _, _ => none
 | .nilCheck x => (c9 x).map .dw
 | .binOp op T x y _ => match c9 x, c9 y with
   | some x, some y => some (.aK op T x y)
   | _, _ => none
 | .unOp op _ x => (c9 x).map (.un op)
 | .convert A B x => (c9 x).map (.ey A B)
 | .makeFunc (.func f) first cs => if first.isEmpty then (p2 cs.toList).map (.h5 f) else none
 | .makeSlice T l c => match c9 l, c9 c with
   | some l, some c => some (.eH T l c)
   | _, _ => none
 | .slice T x cy az none => match c9 x, r0 cy, r0 az with
   | some x, some cy, some az => some (.dx T x cy az)
   | _, _, _ => none
 | .fieldAddr T x k => (c9 x).map fun x => .bs T x k
 | .indexAddr T x i => match c9 x, c9 i with
   | some x, some i => some (.cp T x i)
   | _, _ => none
 | .index T x i => match c9 x, c9 i with
   | some x, some i => some (.idx T x i)
   | _, _ => none
 | .extract x k => (c9 x).map fun x => .ex x k
 | .call c => match c.callee with
   | .value f => match c9 f, p2 c.args.toList with
     | some f, some xs => some (.call f xs)
     | _, _ => none
   | .builtin .len => match c.args.toList, c.argTypes.toList with
     | [x], [T] => (c9 x).map (.len T)
     | _, _ => none
   | .builtin .cap => match c.args.toList, c.argTypes.toList with
     | [x], [T] => (c9 x).map (.cap T)
     | _, _ => none
   | .builtin .min => match c.args.toList with
     | [x, y] => match c9 x, c9 y with
       | some x, some y => some (.mB false x y)
       | _, _ => none
     | _ => none
   | .builtin .max => match c.args.toList with
     | [x, y] => match c9 x, c9 y with
       | some x, some y => some (.mB true x y)
       | _, _ => none
     | _ => none
   | .builtin .append => match c.args.toList, c.argTypes.toList with
     | [x, y], [T, bn] => match c9 x, c9 y with
       | some x, some y => some (.app T bn x y)
       | _, _ => none
     | _, _ => none
   | _ => none
 | _ => none
def mB (g8 : Bool) : j → j → Option j
 | .str a, .str b => some (.str (tA g8 a b))
 | _, _ => none
def br (C : bN) (s : ag) : eD → Option (j × ag)
 | .ae x => some (aD s x, s)
 | .an x => match aD s x with
   | .h y q => cd s (.h y q)
   | d => some (d, s)
 | .pick c a b => match aD s c with
   | .bool ew => some (if ew then aD s a else aD s b, s)
   | _ => none
 | .eV T => (eV C T).map fun d => (d, s)
 | .di _ x => di s (aD s x)
 | .ft T ps => ft C s T (ps.map fun p => (p.1, aD s p.2))
 | .c_ T n ps => c_ C s T n (ps.map fun p => (p.1, aD s p.2))
 | .aW T x => (aW C s T (aD s x)).map fun d => (d, s)
 | .de T x y => (de C s T (aD s x) (aD s y)).map fun s1 => (.hole, s1)
 | .dw x => (dw s (aD s x)).map fun d => (d, s)
 | .aK op T x y => (aK C s op T (aD s x) (aD s y)).map fun d => (d, s)
 | .un op x => (un op (aD s x)).map fun d => (d, s)
 | .ey A B x => (ey C s A B (aD s x)).map fun d => (d, s)
 | .h5 f cs => some (.fn f (cs.map (aD s)), s)
 | .eH T l c => (eH C T (aD s l) (aD s c)).map fun d => (d, s)
 | .dx T x cy az => dx C s T (aD s x) (cy.map (aD s)) (az.map (aD s))
 | .bs T x k => (bs C s T (aD s x) k).map fun d => (d, s)
 | .cp T x i => (cp C s T (aD s x) (aD s i)).map fun d => (d, s)
 | .idx T x i => (idx C T (aD s x) (aD s i)).map fun d => (d, s)
 | .ex x k => (ex s (aD s x) k).map fun d => (d, s)
 | .call _ _ => none
 | .len T x => (jV C s T (aD s x)).map fun d => (d, s)
 | .app T bn x y => jX C s T bn (aD s x) (aD s y)
 | .shr _ => none
 | .ki _ _ _ _ => none
 | .jg _ _ _ => none
 | .h4 _ x => h4 s (aD s x)
 | .hH T bn x y => (hH C T bn (aD s x) (aD s y)).map fun d => (d, s)
 | .cap T x => match (C.T T).k, aD s x with
   | .slice _, .a_ => some (.int .i64 0, s)
   | _, _ => none
 | .mB g8 x y => (mB g8 (aD s x) (aD s y)).map fun d => (d, s)
 | .bad => none
section
variable {C : bN} {w0 w : World} {F0 X F : Nat → Prop} {S : Nat → Nat → Prop} {s s1 : ag} {a : Act} {av : j}
theorem oJ : ∀ {os : List Operand} {xs : List ax}, p2 os = some xs → os.map c9 = xs.map some
 | [], xs, h => by simp [p2] at h; subst h; rfl
 | o :: os, xs, h => by
   simp only [p2] at h
   split at h
   ·rename_i x Hz aa ab
    simp at h; subst h
    simp [aa, oJ ab]
   ·cases h
theorem xx {au : Nat → Value} (h : bB w0 F0 X F S s au w) (dD : ∀ t, au t = a.tmps.getD t undef) : ∀ {ps : List (Nat × Operand)} {xs : List (Nat × ax)}, p3 ps = some xs →
  lo w F s au (xs.map fun p => (p.1, aD s p.2)) (ps.map fun p => (p.1, a.eval p.2))
 | [], xs, h => by simp [p3] at h; subst h; trivial
 | (k, o) :: ps, xs, bq => by
   simp only [p3] at bq
   split at bq
   ·rename_i x Hz aa ab
    simp at bq; subst bq
    obtain ⟨aV, bo⟩ := eU h dD aa
    exact ⟨rfl, aV, bo, xx h dD ab⟩
   ·cases bq
def Next (C : bN) (w0 : World) (F0 X : Nat → Prop) (au : Nat → Value) (w : World) (m : Sem Go.Next) (av : j) (s1 : ag) : Prop :=
 ∃ r aB v bA aH, m.run C.P w = .ok r aB ∧ (r = .value v ∨ r = .skip ∧ v = undef) ∧ bB w0 F0 X bA aH s1 au aB ∧ jb w0 X bA aH s1 au aB av v
theorem Good.next {au : Nat → Value} {m : Sem Value} (h : Good C w0 F0 X au w m av s1) : Next C w0 F0 X au w (do pure (.value (← m))) av s1 := by
 obtain ⟨v, aB, bA, aH, aa, ab, aE⟩ := h
 exact ⟨.value v, aB, v, bA, aH, by simp [aa], .inl rfl, ab, aE⟩
theorem AW {au : Nat → Value} (h : bB w0 F0 X F S s au w) {g8 : Bool} {x y : j} {iv hQ : Value} {m : Sem Go.Next} (aa : aF w F s au x iv (fun _ => False)) (ab : aF w F s au y hQ (fun _ => False))
  (he : (mB g8 x y).map (fun d => (d, s)) = some (av, s1)) (hm : m = (do pure (.value (← if g8 then Builtin.max2 iv hQ else Builtin.min2 iv hQ)))) : Next C w0 F0 X au w m av s1 := by
 simp only [Option.map_eq_some_iff, Prod.mk.injEq] at he
 obtain ⟨d, af, rfl, rfl⟩ := he
 unfold mB at af
 split at af
 ·rename_i a b
  simp only [Option.some.injEq] at af; subst af
  have aJ := mu aa
  have aT := mu ab
  subst aJ aT
  subst hm
  refine ⟨.value (.string ⟨⟨tA g8 a b⟩⟩), w, _, F, S, ?_, .inl rfl, h, .inl ⟨rfl, lW _⟩⟩
  cases g8
  ·simp only [Builtin.min2, Op.stringOp, xd, tA, Bool.false_eq_true, if_false]
   cases J : (Op.bytesLess a b || a == b) <;> simp [asBool]
  ·simp only [Builtin.max2, Op.stringOp, xd, tA, if_true]
   cases J : Op.bytesLess a b <;> simp [asBool]
 ·cases af
theorem AX (bm : C.Ok) {au : Nat → Value} (h : bB w0 F0 X F S s au w) (dD : ∀ t, au t = a.tmps.getD t undef) {o : Oper} {bd : eD} (U : da o.op = some bd) (he : br C s bd = some (av, s1)) :
  Next C w0 F0 X au w (execOp a.eval o) av s1 := by
 obtain ⟨dst, op, ty, pos, after, guard⟩ := o
 simp only at U
 cases op with
 | move x =>
   simp only [da, Option.map_eq_some_iff] at U
   obtain ⟨cz, ai, rfl⟩ := U
   obtain ⟨aV, bo⟩ := eU h dD ai
   simp only [br, Option.some.injEq, Prod.mk.injEq] at he
   obtain ⟨rfl, rfl⟩ := he
   exact ⟨_, w, _, F, S, rfl, .inl rfl, h, .inl ⟨aV, bo⟩⟩
 | assign x =>
   simp only [da, Option.map_eq_some_iff] at U
   obtain ⟨cz, ai, rfl⟩ := U
   obtain ⟨aV, bo⟩ := eU h dD ai
   simp only [br] at he
   split at he
   ·rename_i y q bC
    rw [bC] at aV bo
    obtain ⟨bW, k0, b9, cj, Sn, d_, dv, e1, dY, iw, _⟩ := nw h aV bo he
    exact ⟨_, w, _, F, bW, rfl, .inl rfl, k0, .inr ⟨b9, cj, Sn, d_, dv, e1, dY, iw⟩⟩
   ·simp only [Option.some.injEq, Prod.mk.injEq] at he
    obtain ⟨rfl, rfl⟩ := he
    exact ⟨_, w, _, F, S, rfl, .inl rfl, h, .inl ⟨aV, bo⟩⟩
 | pick c x y =>
   simp only [da] at U
   split at U
   ·rename_i uh cz iH aj ai bC
    simp only [Option.some.injEq] at U; subst U
    simp only [br] at he
    split at he
    ·rename_i b J
     simp only [Option.some.injEq, Prod.mk.injEq] at he
     obtain ⟨rfl, rfl⟩ := he
     have oI := (eU h dD aj).2
     rw [J] at oI
     have oI := oA oI
     obtain ⟨aC, aM⟩ := eU h dD ai
     obtain ⟨gk, hT⟩ := eU h dD bC
     refine ⟨.value (if b then a.eval x else a.eval y), w, _, F, S, ?_, .inl rfl, h, .inl ?_⟩
     ·simp [execOp, oI, asBool]
     ·cases b
      ·exact ⟨gk, hT⟩
      ·exact ⟨aC, aM⟩
    ·cases he
   ·cases U
 | alloc T =>
   simp only [da, Option.some.injEq] at U; subst U
   simp only [br, Option.map_eq_some_iff, Prod.mk.injEq] at he
   obtain ⟨d, af, rfl, rfl⟩ := he
   exact (GC bm h af).next
 | box T x =>
   simp only [da, Option.map_eq_some_iff] at U
   obtain ⟨cz, ai, rfl⟩ := U
   obtain ⟨aV, bo⟩ := eU h dD ai
   exact (GF h aV bo he).next
 | build T ps =>
   simp only [da, Option.map_eq_some_iff] at U
   obtain ⟨HA, ao, rfl⟩ := U
   obtain ⟨ps⟩ := ps
   have := (Ht bm h (xx h dD ao) he).next
   simpa [execOp] using this
 | buildSlice T n ps =>
   simp only [da, Option.map_eq_some_iff] at U
   obtain ⟨HA, ao, rfl⟩ := U
   obtain ⟨ps⟩ := ps
   have := (Hw bm h (xx h dD ao) he).next
   simpa [execOp] using this
 | load T x =>
   simp only [da, Option.map_eq_some_iff] at U
   obtain ⟨cz, ai, rfl⟩ := U
   obtain ⟨aV, bo⟩ := eU h dD ai
   simp only [br, Option.map_eq_some_iff, Prod.mk.injEq] at he
   obtain ⟨d, af, rfl, rfl⟩ := he
   exact (Gx bm h bo af).next
 | store T x y =>
   simp only [da] at U
   split at U
   ·rename_i cz iH ai bC
    simp only [Option.some.injEq] at U; subst U
    simp only [br, Option.map_eq_some_iff, Prod.mk.injEq] at he
    obtain ⟨s2, af, rfl, rfl⟩ := he
    obtain ⟨aB, aH, aa, ab⟩ := GA bm h (eU h dD ai).2 (eU h dD bC).1 (eU h dD bC).2 af
    exact ⟨.skip, aB, undef, F, aH, by simp [execOp, aa], .inr ⟨rfl, rfl⟩, ab, .inl ⟨rfl, by rw [aF]; trivial⟩⟩
   ·cases U
 | nilCheck x =>
   simp only [da, Option.map_eq_some_iff] at U
   obtain ⟨cz, ai, rfl⟩ := U
   obtain ⟨aV, bo⟩ := eU h dD ai
   simp only [br, Option.map_eq_some_iff, Prod.mk.injEq] at he
   obtain ⟨d, af, rfl, rfl⟩ := he
   obtain ⟨rfl, ao, aG⟩ := GO h bo af
   refine ⟨.value (a.eval x), w, _, F, S, ?_, .inl rfl, h, .inl ⟨ao, bo⟩⟩
   rcases aG with ⟨b, J⟩ | ⟨f, c, J⟩ <;> simp [execOp, J]
 | binOp op T x y Z_ =>
   simp only [da] at U
   split at U
   ·rename_i cz iH ai bC
    simp only [Option.some.injEq] at U; subst U
    simp only [br, Option.map_eq_some_iff, Prod.mk.injEq] at he
    obtain ⟨d, af, rfl, rfl⟩ := he
    exact (GJ bm h x y (eU h dD ai).2 (eU h dD bC).2 af).next
   ·cases U
 | unOp op T x =>
   simp only [da, Option.map_eq_some_iff] at U
   obtain ⟨cz, ai, rfl⟩ := U
   simp only [br, Option.map_eq_some_iff, Prod.mk.injEq] at he
   obtain ⟨d, af, rfl, rfl⟩ := he
   exact (GM h (eU h dD ai).2 af).next
 | convert A B x =>
   simp only [da, Option.map_eq_some_iff] at U
   obtain ⟨cz, ai, rfl⟩ := U
   simp only [br, Option.map_eq_some_iff, Prod.mk.injEq] at he
   obtain ⟨d, af, rfl, rfl⟩ := he
   exact (GX bm h (eU h dD ai).2 af).next
 | makeFunc fn first cs =>
   cases fn with
   | func f =>
     simp only [da] at U
     split at U
     ·rename_i HB
      simp only [Option.map_eq_some_iff] at U
      obtain ⟨nE, hF, rfl⟩ := U
      simp only [br, Option.some.injEq, Prod.mk.injEq] at he
      obtain ⟨rfl, rfl⟩ := he
      have HC : first = #[] := by simpa using HB
      subst HC
      refine ⟨_, w, _, F, S, rfl, .inl rfl, h, .inl ⟨rfl, ?_⟩⟩
      rw [aF]
      refine ⟨cs.map a.eval, by simp, ?_⟩
      simpa using ue h dD _ _ (oJ hF)
     ·cases U
   | _ => simp [da] at U
 | makeSlice T l c =>
   simp only [da] at U
   split at U
   ·rename_i cz iH ai bC
    simp only [Option.some.injEq] at U; subst U
    simp only [br, Option.map_eq_some_iff, Prod.mk.injEq] at he
    obtain ⟨d, af, rfl, rfl⟩ := he
    exact (Hj bm h (eU h dD ai).2 (eU h dD bC).2 af).next
   ·cases U
 | slice T x cy az g8 =>
   cases g8 with
   | some m => simp [da] at U
   | none =>
     simp only [da] at U
     split at U
     ·rename_i cz aaa oK ai lf lg
      simp only [Option.some.injEq] at U; subst U
      obtain ⟨aV, bo⟩ := eU h dD ai
      have opt : ∀ {o : Option Operand} {kG : Option ax}, r0 o = some kG → m3 w F s au (kG.map (aD s)) (o.map a.eval) := by
       intro o kG bP
       cases o with
       | none => simp [r0] at bP; subst bP; trivial
       | some o =>
         simp only [r0, Option.map_eq_some_iff] at bP
         obtain ⟨x, ai, rfl⟩ := bP
         exact (eU h dD ai).2
      exact (G0 bm h aV bo (opt lf) (opt lg) he).next
     ·cases U
 | fieldAddr T x k =>
   simp only [da, Option.map_eq_some_iff] at U
   obtain ⟨cz, ai, rfl⟩ := U
   obtain ⟨aV, bo⟩ := eU h dD ai
   simp only [br, Option.map_eq_some_iff, Prod.mk.injEq] at he
   obtain ⟨d, af, rfl, rfl⟩ := he
   exact (Gq bm h aV bo af).next
 | indexAddr T x i =>
   simp only [da] at U
   split at U
   ·rename_i cz iH ai bC
    simp only [Option.some.injEq] at U; subst U
    simp only [br, Option.map_eq_some_iff, Prod.mk.injEq] at he
    obtain ⟨d, af, rfl, rfl⟩ := he
    exact (Gr bm h (eU h dD ai).2 (eU h dD bC).2 af).next
   ·cases U
 | index T x i =>
   simp only [da] at U
   split at U
   ·rename_i cz iH ai bC
    simp only [Option.some.injEq] at U; subst U
    simp only [br, Option.map_eq_some_iff, Prod.mk.injEq] at he
    obtain ⟨d, af, rfl, rfl⟩ := he
    exact (GU bm h (eU h dD ai).2 (eU h dD bC).2 af).next
   ·cases U
 | extract x k =>
   simp only [da, Option.map_eq_some_iff] at U
   obtain ⟨cz, ai, rfl⟩ := U
   simp only [br, Option.map_eq_some_iff, Prod.mk.injEq] at he
   obtain ⟨d, af, rfl, rfl⟩ := he
   exact (GR h (eU h dD ai).2 af).next
 | call c =>
   obtain ⟨callee, args, argTypes⟩ := c
   simp only [da] at U
   split at U
   ·split at U
    ·simp only [Option.some.injEq] at U; subst U
     simp [br] at he
    ·cases U
   ·split at U
    ·rename_i x T kj oL
     simp only [Option.map_eq_some_iff] at U
     obtain ⟨cz, ai, rfl⟩ := U
     simp only [br, Option.map_eq_some_iff, Prod.mk.injEq] at he
     obtain ⟨d, af, rfl, rfl⟩ := he
     have := (GV (ty := ty) bm h (eU h dD ai).2 af).next
     have aJ : args = #[x] := by apply Array.ext'; exact kj
     have aT : argTypes = #[T] := by apply Array.ext'; exact oL
     subst aJ aT
     simpa [execOp, resolve, invoke, builtin] using this
    ·cases U
   ·split at U
    ·rename_i x T kj oL
     simp only [Option.map_eq_some_iff] at U
     obtain ⟨cz, ai, rfl⟩ := U
     simp only [br] at he
     split at he
     ·rename_i e aw HD
      simp only [Option.some.injEq, Prod.mk.injEq] at he
      obtain ⟨rfl, rfl⟩ := he
      have aG := (eU h dD ai).2
      rw [HD] at aG
      have := m2 aG
      obtain ⟨i, d, z, aJ, aT, bb, cn, c1, b6, bS⟩ := bm.info (fs aw (by simp))
      rw [aw] at bS
      have af := jc bS; subst af
      have HE : args = #[x] := by apply Array.ext'; exact kj
      have HF : argTypes = #[T] := by apply Array.ext'; exact oL
      subst HE HF
      have aO : (Builtin.cap_ #[T] ty #[a.eval x]).run C.P w = .ok (.int .i64 0) w := by
       rw [this]; simp [Builtin.cap_, run_underlying b6, goInt]
      have := (Good.same (av := .int .i64 0) h aO rfl (of_int _ _)).next
      simpa [execOp, resolve, invoke, builtin] using this
     ·cases he
    ·cases U
   ·split at U
    ·rename_i x y kj
     split at U
     ·rename_i cz iH ai bC
      simp only [Option.some.injEq] at U; subst U
      have aJ : args = #[x, y] := by apply Array.ext'; exact kj
      subst aJ
      exact AW h (eU h dD ai).2 (eU h dD bC).2 he (by simp [execOp, resolve, invoke, builtin, Builtin.min_])
     ·cases U
    ·cases U
   ·split at U
    ·rename_i x y kj
     split at U
     ·rename_i cz iH ai bC
      simp only [Option.some.injEq] at U; subst U
      have aJ : args = #[x, y] := by apply Array.ext'; exact kj
      subst aJ
      exact AW h (eU h dD ai).2 (eU h dD bC).2 he (by simp [execOp, resolve, invoke, builtin, Builtin.max_])
     ·cases U
    ·cases U
   ·split at U
    ·rename_i x y T bn kj oL
     split at U
     ·rename_i cz iH ai bC
      simp only [Option.some.injEq] at U; subst U
      have := (Hb (ty := ty) bm h (eU h dD ai).2 (eU h dD bC).2 he).next
      have aJ : args = #[x, y] := by apply Array.ext'; exact kj
      have aT : argTypes = #[T, bn] := by apply Array.ext'; exact oL
      subst aJ aT
      simpa [execOp, resolve, invoke, builtin] using this
     ·cases U
    ·cases U
   ·cases U
 | _ => simp [da] at U
end
mutual
def j.U : j → List Nat
 | .h x _ => [x]
 | .ao x _ => [x]
 | .J x _ => [x]
 | .fn _ cap => j.c2 cap
 | _ => []
def j.c2 : List j → List Nat
 | [] => []
 | d :: ds => d.U ++ j.c2 ds
end
inductive mC where
 | no
 | bJ
 | ca
structure fh where
 k : mC
 x : Nat
 d : j
def mC.app (k : mC) (x : Nat) (a : j) : j := match k with
 | .no => a
 | .bJ => cM.bJ x a
 | .ca => cM.ca x a
def fh.at (m : fh) (u : Nat) (a : j) : j := if u = m.x then m.d else m.k.app m.x a
def h6 : List fh → Nat → j → j
 | [], _, a => a
 | m :: ms, u, a => h6 ms u (m.at u a)
def cL (ms : List fh) (s : ag) : ag := fun u => h6 ms u (s u)
theorem AY : ∀ (ms iY : List fh) (u : Nat) (a : j), h6 (ms ++ iY) u a = h6 iY u (h6 ms u a)
 | [], _, _, _ => rfl
 | m :: ms, iY, u, a => by simp only [List.cons_append, h6]; exact AY ms iY u _
theorem jy (ms iY : List fh) (s : ag) : cL (ms ++ iY) s = cL iY (cL ms s) := by
 funext u; simp [cL, AY]
theorem HG {ms : List fh} {s ak : ag} {u : Nat} (h : ak u = s u) : cL ms ak u = cL ms s u := by simp [cL, h]
theorem r1 (s : ag) (x : Nat) (d : j) : cS (g9 x s) x d = cL [⟨.bJ, x, d⟩] s := by
 funext u; simp only [cL, h6, fh.at, cS, g9, mC.app]
theorem AZ (s : ag) (x : Nat) (d : j) : cS (jS x s) x d = cL [⟨.ca, x, d⟩] s := by
 funext u; simp only [cL, h6, fh.at, cS, jS, mC.app]
theorem xy (s : ag) (x : Nat) (d : j) : cS s x d = cL [⟨.no, x, d⟩] s := by
 funext u; simp only [cL, h6, fh.at, cS, mC.app]
mutual
theorem r2 {x : Nat} : ∀ a : j, x ∉ a.U → bJ x a = a
 | .h y q, h => by
   simp only [j.U, List.mem_singleton] at h
   simp only [bJ]; rw [if_neg (fun e => h e.symm)]
 | .ao y q, h => by
   simp only [j.U, List.mem_singleton] at h
   simp only [bJ]; rw [if_neg (fun e => h e.symm)]
 | .J y q, h => rfl
 | .fn f cap, h => by simp only [bJ]; rw [A0 cap (by simpa [j.U] using h)]
 | .hole, _ => rfl
 | .bool _, _ => rfl
 | .dO, _ => rfl
 | .int _ _, _ => rfl
 | .str _, _ => rfl
 | .cW, _ => rfl
 | .a_, _ => rfl
 | .slice _, _ => rfl
 | .ay _ _, _ => rfl
 | .ref _, _ => rfl
 | .bD _, _ => rfl
 | .agg _, _ => rfl
 | .tuple _, _ => rfl
theorem A0 {x : Nat} : ∀ ds : List j, x ∉ j.c2 ds → gY x ds = ds
 | [], _ => rfl
 | d :: ds, h => by
   simp only [j.c2, List.mem_append, not_or] at h
   simp only [gY]; rw [r2 d h.1, A0 ds h.2]
end
mutual
theorem xz {x : Nat} : ∀ a : j, x ∉ a.U → ca x a = a
 | .h y q, h => by
   simp only [j.U, List.mem_singleton] at h
   simp only [ca]; rw [if_neg (fun e => h e.symm)]
 | .ao y q, h => by
   simp only [j.U, List.mem_singleton] at h
   simp only [ca]; rw [if_neg (fun e => h e.symm)]
 | .J y q, h => by
   simp only [j.U, List.mem_singleton] at h
   simp only [ca]; rw [if_neg (fun e => h e.symm)]
 | .fn f cap, h => by simp only [ca]; rw [A1 cap (by simpa [j.U] using h)]
 | .hole, _ => rfl
 | .bool _, _ => rfl
 | .dO, _ => rfl
 | .int _ _, _ => rfl
 | .str _, _ => rfl
 | .cW, _ => rfl
 | .a_, _ => rfl
 | .slice _, _ => rfl
 | .ay _ _, _ => rfl
 | .ref _, _ => rfl
 | .bD _, _ => rfl
 | .agg _, _ => rfl
 | .tuple _, _ => rfl
theorem A1 {x : Nat} : ∀ ds : List j, x ∉ j.c2 ds → hq x ds = ds
 | [], _ => rfl
 | d :: ds, h => by
   simp only [j.c2, List.mem_append, not_or] at h
   simp only [hq]; rw [xz d h.1, A1 ds h.2]
end
theorem r3 {k : mC} {x : Nat} {a : j} (h : k = .no ∨ x ∉ a.U) : k.app x a = a := by
 cases k with
 | no => rfl
 | bJ => exact r2 a (by simpa using h)
 | ca => exact xz a (by simpa using h)
mutual
theorem A2 (x y : Nat) : ∀ a : j, bJ x (bJ y a) = bJ y (bJ x a)
 | .h z q => by simp only [bJ]; by_cases aa : z = x <;> by_cases ab : z = y <;> by_cases aE : q = [] <;> simp [aa, ab, aE, bJ] <;> (subst_vars; simp_all [bJ])
 | .ao z q => by simp only [bJ]; by_cases aa : z = x <;> by_cases ab : z = y <;> simp [aa, ab, bJ] <;> (subst_vars; simp_all [bJ])
 | .J z q => rfl
 | .fn f cap => by simp only [bJ]; rw [A3 x y cap]
 | .hole => rfl
 | .bool _ => rfl
 | .dO => rfl
 | .int _ _ => rfl
 | .str _ => rfl
 | .cW => rfl
 | .a_ => rfl
 | .slice _ => rfl
 | .ay _ _ => rfl
 | .ref _ => rfl
 | .bD _ => rfl
 | .agg _ => rfl
 | .tuple _ => rfl
theorem A3 (x y : Nat) : ∀ ds : List j, gY x (gY y ds) = gY y (gY x ds)
 | [] => rfl
 | d :: ds => by simp only [gY]; rw [A2 x y d, A3 x y ds]
end
mutual
theorem A4 (x y : Nat) : ∀ a : j, ca x (ca y a) = ca y (ca x a)
 | .h z q => by simp only [ca]; by_cases aa : z = x <;> by_cases ab : z = y <;> simp [aa, ab, ca] <;> (subst_vars; simp_all [ca])
 | .ao z q => by simp only [ca]; by_cases aa : z = x <;> by_cases ab : z = y <;> simp [aa, ab, ca] <;> (subst_vars; simp_all [ca])
 | .J z q => by simp only [ca]; by_cases aa : z = x <;> by_cases ab : z = y <;> simp [aa, ab, ca] <;> (subst_vars; simp_all [ca])
 | .fn f cap => by simp only [ca]; rw [A5 x y cap]
 | .hole => rfl
 | .bool _ => rfl
 | .dO => rfl
 | .int _ _ => rfl
 | .str _ => rfl
 | .cW => rfl
 | .a_ => rfl
 | .slice _ => rfl
 | .ay _ _ => rfl
 | .ref _ => rfl
 | .bD _ => rfl
 | .agg _ => rfl
 | .tuple _ => rfl
theorem A5 (x y : Nat) : ∀ ds : List j, hq x (hq y ds) = hq y (hq x ds)
 | [] => rfl
 | d :: ds => by simp only [hq]; rw [A4 x y d, A5 x y ds]
end
mutual
theorem xA (x y : Nat) : ∀ a : j, bJ x (ca y a) = ca y (bJ x a)
 | .h z q => by simp only [ca, bJ]; by_cases aa : z = x <;> by_cases ab : z = y <;> by_cases aE : q = [] <;> simp [aa, ab, aE, ca, bJ] <;> (subst_vars; simp_all [ca, bJ])
 | .ao z q => by simp only [ca, bJ]; by_cases aa : z = x <;> by_cases ab : z = y <;> simp [aa, ab, ca, bJ] <;> (subst_vars; simp_all [ca, bJ])
 | .J z q => by simp only [ca, bJ]; by_cases ab : z = y <;> simp [ab, bJ]
 | .fn f cap => by simp only [ca, bJ]; rw [A6 x y cap]
 | .hole => rfl
 | .bool _ => rfl
 | .dO => rfl
 | .int _ _ => rfl
 | .str _ => rfl
 | .cW => rfl
 | .a_ => rfl
 | .slice _ => rfl
 | .ay _ _ => rfl
 | .ref _ => rfl
 | .bD _ => rfl
 | .agg _ => rfl
 | .tuple _ => rfl
theorem A6 (x y : Nat) : ∀ ds : List j, gY x (hq y ds) = hq y (gY x ds)
 | [] => rfl
 | d :: ds => by simp only [hq, gY]; rw [xA x y d, A6 x y ds]
end
theorem HH (k l : mC) (x y : Nat) (a : j) : k.app x (l.app y a) = l.app y (k.app x a) := by
 cases k <;> cases l <;> simp only [mC.app] <;> first | rfl | exact A2 .. | exact A4 .. | exact xA .. | exact (xA ..).symm
def ax.use (s : ag) : ax → List Nat
 | .t n => n :: (s n).U
 | .c av => av.U
 | .f _ => []
def ax.lp (s : ag) : List ax → List Nat
 | [] => []
 | x :: xs => x.use s ++ ax.lp s xs
def xB (s : ag) : Option ax → List Nat
 | none => []
 | some x => x.use s
def use (s : ag) : eD → List Nat
 | .ae x => x.use s
 | .an x => x.use s
 | .pick c a b => c.use s ++ (a.use s ++ b.use s)
 | .eV _ => []
 | .di _ x => x.use s
 | .ft _ ps => ax.lp s (ps.map (·.2))
 | .c_ _ _ ps => ax.lp s (ps.map (·.2))
 | .aW _ x => x.use s
 | .de _ x y => x.use s ++ y.use s
 | .dw x => x.use s
 | .aK _ _ x y => x.use s ++ y.use s
 | .un _ x => x.use s
 | .ey _ _ x => x.use s
 | .h5 _ cs => ax.lp s cs
 | .eH _ l c => l.use s ++ c.use s
 | .dx _ x cy az => x.use s ++ (xB s cy ++ xB s az)
 | .bs _ x _ => x.use s
 | .cp _ x i => x.use s ++ i.use s
 | .idx _ x i => x.use s ++ i.use s
 | .ex x _ => x.use s
 | .call f args => f.use s ++ ax.lp s args
 | .len _ x => x.use s
 | .app _ _ x y => x.use s ++ y.use s
 | .shr bd => use s bd
 | .ki f args u x => u :: x :: (f.use s ++ ax.lp s args)
 | .jg f args us => us.flatMap (fun u => u :: (s u).U) ++ (f.use s ++ ax.lp s args)
 | .h4 _ x => x.use s
 | .hH _ _ x y => x.use s ++ y.use s
 | .cap _ x => x.use s
 | .mB _ x y => x.use s ++ y.use s
 | .bad => []
def cH (s : ag) : eD → List Nat
 | .an x => (aD s x).U
 | .di _ x => (aD s x).U
 | .ft _ ps => j.c2 (ps.map fun p => aD s p.2)
 | .c_ _ _ ps => j.c2 (ps.map fun p => aD s p.2)
 | .de _ x y => (aD s x).U ++ (aD s y).U
 | .dx _ x _ _ => (aD s x).U
 | .app _ _ x y => (aD s x).U ++ (aD s y).U
 | .shr bd => cH s bd
 | _ => []
def c5 (bn : List Nat) (ak s : ag) : Prop := ∀ u ∈ bn, ak u = s u
theorem c5.left {bn V : List Nat} {ak s : ag} (h : c5 (bn ++ V) ak s) : c5 bn ak s := fun u hu => h u (List.mem_append_left _ hu)
theorem c5.right {bn V : List Nat} {ak s : ag} (h : c5 (bn ++ V) ak s) : c5 V ak s := fun u hu => h u (List.mem_append_right _ hu)
theorem c5.cL {bn : List Nat} {ak s : ag} (h : c5 bn ak s) (ms : List fh) : c5 bn (cL ms ak) (cL ms s) := fun u hu => HG (h u hu)
theorem c5.sub {bn V : List Nat} {ak s : ag} (h : c5 bn ak s) (U : ∀ u ∈ V, u ∈ bn) : c5 V ak s := fun u hu => h u (U u hu)
theorem ax.oM {s : ag} {x : ax} : ∀ u ∈ (aD s x).U, u ∈ x.use s := by
 intro u hu
 cases x with
 | t n =>
   simp only [aD, hr] at hu
   split at hu
   ·simp [ax.use, hu]
   ·simp only [j.U, List.mem_singleton] at hu; simp [ax.use, hu]
 | c av => exact hu
 | f g => simp [aD, j.U, j.c2] at hu
theorem ax.fe {s ak : ag} {x : ax} (h : c5 (x.use s) ak s) : aD ak x = aD s x := by
 cases x with
 | t n => simp only [aD]; rw [h n (by simp [ax.use])]
 | c av => rfl
 | f g => rfl
theorem c5.aD {s ak : ag} {x : ax} (h : c5 (x.use s) ak s) : c5 (aD s x).U ak s := h.sub ax.oM
theorem A7 {s ak : ag} {x : Option ax} (h : c5 (xB s x) ak s) : x.map (aD ak) = x.map (aD s) := by
 cases x with
 | none => rfl
 | some x => simp only [Option.map_some]; rw [ax.fe h]
theorem ax.xC {s ak : ag} : ∀ {xs : List ax}, c5 (ax.lp s xs) ak s → xs.map (aD ak) = xs.map (aD s)
 | [], _ => rfl
 | x :: xs, h => by
   simp only [List.map_cons]
   rw [ax.fe (h.left), ax.xC (h.right)]
theorem ax.xD {s ak : ag} : ∀ {ps : List (Nat × ax)}, c5 (ax.lp s (ps.map (·.2))) ak s → (ps.map fun p => (p.1, aD ak p.2)) = ps.map fun p => (p.1, aD s p.2)
 | [], _ => rfl
 | x :: xs, h => by
   simp only [List.map_cons] at h ⊢
   rw [ax.fe (h.left), ax.xD (h.right)]
theorem ax.ui {s : ag} : ∀ {xs : List ax}, ∀ u ∈ j.c2 (xs.map (aD s)), u ∈ ax.lp s xs
 | [], u, h => by simp [j.c2] at h
 | x :: xs, u, h => by
   simp only [List.map_cons, j.c2, List.mem_append] at h
   simp only [ax.lp, List.mem_append]
   exact h.imp (ax.oM u) (ax.ui u)
section
variable {C : bN} {s ak : ag} {x y i : j} {T A B : TypeId}
theorem xE (h : c5 x.U ak s) : loc ak x = loc s x := by
 cases x <;> first
  | rfl
  | (simp only [loc]; rw [h _ (by simp [j.U])])
theorem xF {z : Nat} {q : List Nat} (h : loc s x = some (z, q)) : z ∈ x.U := by
 cases x with
 | h y p =>
   simp only [loc] at h
   split at h
   ·simp only [Option.some.injEq, Prod.mk.injEq] at h; simp [j.U, h.1]
   ·cases h
 | ao y p =>
   simp only [loc] at h
   split at h
   ·simp only [Option.some.injEq, Prod.mk.injEq] at h; simp [j.U, h.1]
   ·cases h
 | _ => simp [loc] at h
theorem HI (h : c5 x.U ak s) : aW C ak T x = aW C s T x := by
 have hl := xE h
 unfold aW
 split
 ·rfl
 ·rw [h _ (by simp [j.U])]
 ·rw [hl]
  split
  ·rename_i e
   rw [h _ (xF e)]
  ·rfl
theorem HJ {k : Nat} (h : c5 x.U ak s) : bs C ak T x k = bs C s T x k := by
 have hl := xE h
 unfold bs
 split
 ·split
  ·split
   ·split
    ·rfl
    ·rw [h _ (by simp [j.U])]
    ·rw [hl]
     split
     ·rename_i e
      rw [h _ (xF e)]
     ·rfl
   ·rfl
  ·rfl
 ·rfl
theorem HK (h : c5 x.U ak s) : cp C ak T x i = cp C s T x i := by
 cases x <;> first
  | rfl
  | (simp only [cp]; rw [h _ (by simp [j.U])])
theorem HL (h : c5 x.U ak s) : jV C ak T x = jV C s T x := by
 unfold jV
 cases (C.T T).k <;> cases x <;> first
  | rfl
  | (simp only; rw [h _ (by simp [j.U])])
theorem HM (h : c5 x.U ak s) : ey C ak A B x = ey C s A B x := by
 unfold ey
 cases (C.T B).k <;> cases x <;> first
  | rfl
  | (simp only; rw [h _ (by simp [j.U])])
theorem HN (h : c5 x.U ak s) : jd ak x = jd s x := by
 cases x <;> first
  | rfl
  | (simp only [jd]; rw [h _ (by simp [j.U])])
theorem HO (h : c5 x.U ak s) : je ak x = je s x := by
 cases x <;> first
  | rfl
  | (simp only [je]; rw [h _ (by simp [j.U])])
theorem HP {op : BinOp} (h : c5 x.U ak s) : aK C ak op T x y = aK C s op T x y := by
 have aa := HN h
 have ab := HO h
 unfold aK
 split <;> first | rfl | simp only [aa, ab]
theorem HQ (h : c5 x.U ak s) : dw ak x = dw s x := by
 cases x <;> first
  | rfl
  | (simp only [dw]; rw [h _ (by simp [j.U])])
theorem HR {k : Nat} (h : c5 x.U ak s) : ex ak x k = ex s x k := by
 cases x <;> first
  | rfl
  | (simp only [ex]; rw [h _ (by simp [j.U])])
theorem r4 : ∀ (q : List Nat) (a d e : j), j.sub q a = some d → (d.plain = false ∨ q ≠ []) → (q = [] → e.U = []) → (j.put q e a).U = [] := by
 intro q a d e h ao he
 cases q with
 | nil => rw [j.put]; exact he rfl
 | cons k q =>
   cases a <;> first
    | (simp [j.sub] at h; done)
    | skip
   all_goals
    unfold j.put
    repeat' split
    all_goals first | rfl | (simp_all; done)
end
def Loc {α : Type} (bn p4 : List Nat) (f : ag → Option (α × ag)) (s : ag) (av : α) (s1 : ag) : Prop :=
 ∃ ms, s1 = cL ms s ∧ (∀ m ∈ ms, m.x ∈ p4 ∧ m.d.U = []) ∧ ∀ ak, c5 bn ak s → f ak = some (av, cL ms ak)
theorem Loc.pure {α : Type} {bn p4 : List Nat} {f : ag → Option (α × ag)} {s : ag} {av : α} (h : ∀ ak, c5 bn ak s → f ak = some (av, ak)) : Loc bn p4 f s av s :=
 ⟨[], rfl, by simp, fun ak U => h ak U⟩
theorem Loc.mono {α : Type} {bn p4 uj A8 : List Nat} {f : ag → Option (α × ag)} {s s1 : ag} {av : α} (h : Loc bn p4 f s av s1) (mz : ∀ u ∈ bn, u ∈ uj) (mr : ∀ u ∈ p4, u ∈ A8) : Loc uj A8 f s av s1 := by
 obtain ⟨ms, aa, ab, aE⟩ := h
 exact ⟨ms, aa, fun m hm => ⟨mr _ (ab m hm).1, (ab m hm).2⟩, fun ak U => aE ak (U.sub mz)⟩
section
variable {C : bN} {s s1 : ag} {x y d : j} {T A B : TypeId}
theorem oN (h : cd s x = some (d, s1)) : Loc x.U x.U (fun s => cd s x) s d s1 := by
 cases x with
 | h y q =>
   simp only [cd] at h
   split at h
   ·rename_i e he
    split at h
    ·cases h
    ·rename_i ao
     simp only [Option.some.injEq, Prod.mk.injEq] at h
     obtain ⟨rfl, rfl⟩ := h
     have ao : e.plain = false := by simpa using ao
     refine ⟨[⟨.bJ, y, j.put q e.cD (s y)⟩], r1 _ _ _, ?_, ?_⟩
     ·intro m hm
      simp only [List.mem_singleton] at hm; subst hm
      refine ⟨by simp [j.U], r4 q _ _ _ he (.inl ao) fun cT => ?_⟩
      subst cT
      cases e <;> first | (simp [j.plain] at ao; done) | rfl
     ·intro ak U
      have aJ : ak y = s y := U y (by simp [j.U])
      simp only [cd, aJ, he, ao]
      rw [← r1]; rfl
   ·cases h
 | ao y q => simp [cd] at h
 | J y q => simp [cd] at h
 | fn f c => simp [cd] at h
 | hole => simp [cd] at h
 | _ =>
   simp only [cd, Option.some.injEq, Prod.mk.injEq] at h
   obtain ⟨rfl, rfl⟩ := h
   exact .pure fun ak _ => rfl
mutual
theorem A9 (x : Nat) : ∀ a : j, ∀ u ∈ (bJ x a).U, u ∈ a.U
 | .h y q, u, h => by
   simp only [bJ] at h
   split at h
   ·split at h
    ·exact h
    ·simp [j.U] at h
   ·exact h
 | .ao y q, u, h => by
   simp only [bJ] at h
   split at h
   ·simp [j.U] at h
   ·exact h
 | .J y q, u, h => h
 | .fn f cap, u, h => by simp only [bJ, j.U] at h ⊢; exact A_ x cap u h
 | .hole, u, h => h
 | .bool _, u, h => h
 | .dO, u, h => h
 | .int _ _, u, h => h
 | .str _, u, h => h
 | .cW, u, h => h
 | .a_, u, h => h
 | .slice _, u, h => h
 | .ay _ _, u, h => h
 | .ref _, u, h => h
 | .bD _, u, h => h
 | .agg _, u, h => h
 | .tuple _, u, h => h
theorem A_ (x : Nat) : ∀ ds : List j, ∀ u ∈ j.c2 (gY x ds), u ∈ j.c2 ds
 | [], u, h => h
 | d :: ds, u, h => by
   simp only [gY, j.c2, List.mem_append] at h ⊢
   exact h.imp (A9 x d u) (A_ x ds u)
end
theorem xG (o : Option Nat) (a : j) : ∀ u ∈ (iU o a).U, u ∈ a.U := by
 intro u h
 cases o with
 | none => exact h
 | some x => exact A9 x a u h
theorem Ba : ∀ (os : List (Option Nat)) (a : j), ∀ u ∈ (ll os a).U, u ∈ a.U := by
 intro os
 induction os with
 | nil => intro a u h; exact h
 | cons o os ih => intro a u h; exact xG o a u (ih (iU o a) u h)
theorem Bb {place : Nat → Option (Nat × Nat)} : ∀ {ps : List (Nat × j)} {s s1 : ag} {zs ds : List j} {os : List (Option Nat)}, ln place s zs os ps = some (ds, s1) →
  Loc (j.c2 (ps.map (·.2))) (j.c2 (ps.map (·.2))) (fun s => ln place s zs os ps) s ds s1 := by
 intro ps
 induction ps with
 | nil =>
   intro s s1 zs ds os h
   simp only [ln, Option.some.injEq, Prod.mk.injEq] at h
   obtain ⟨rfl, rfl⟩ := h
   exact .pure fun ak _ => rfl
 | cons p ps ih =>
   intro s s1 zs ds os h
   obtain ⟨k, a⟩ := p
   simp only [ln] at h
   split at h
   ·rename_i d s2 off n z aP gj bw
    split at h
    ·cases h
    ·rename_i bj kk
     split at h
     ·rename_i aj
      obtain ⟨l0, rfl, ab, aE⟩ := oN aP
      obtain ⟨oO, rfl, bG, b7⟩ := ih h
      refine ⟨l0 ++ oO, (jy _ _ _).symm, ?_, ?_⟩
      ·intro m hm
       simp only [List.map_cons, j.c2, List.mem_append] at hm ⊢
       rcases hm with hm | hm
       ·exact ⟨.inl (Ba _ _ _ (ab m hm).1), (ab m hm).2⟩
       ·exact ⟨.inr (bG m hm).1, (bG m hm).2⟩
      ·intro ak U
       simp only [List.map_cons, j.c2] at U
       have aJ := aE ak (U.left.sub (Ba _ _))
       have aT := b7 (cL l0 ak) (U.right.cL l0)
       simp only at aJ aT
       simp only [ln, aJ, gj, bw, jy]
       rw [if_pos aj]; exact aT
     ·cases h
   ·cases h
theorem HS {ps : List (Nat × j)} {av : j} (h : ft C s T ps = some (av, s1)) : Loc (j.c2 (ps.map (·.2))) (j.c2 (ps.map (·.2))) (fun s => ft C s T ps) s av s1 := by
 unfold ft at h
 split at h
 ·rename_i al zs aw bw
  split at h
  ·rename_i aj
   split at h
   ·rename_i ds s2 bL
    simp only [Option.some.injEq, Prod.mk.injEq] at h
    obtain ⟨rfl, rfl⟩ := h
    obtain ⟨ms, aa, ab, aE⟩ := Bb bL
    refine ⟨ms, aa, ab, fun ak U => ?_⟩
    have := aE ak U
    simp only at this
    simp only [ft, aw, bw, if_pos aj, this]
   ·cases h
  ·cases h
 ·cases h
theorem HT {n : Nat} {ps : List (Nat × j)} {av : j} (h : c_ C s T n ps = some (av, s1)) : Loc (j.c2 (ps.map (·.2))) (j.c2 (ps.map (·.2))) (fun s => c_ C s T n ps) s av s1 := by
 unfold c_ at h
 split at h
 ·rename_i e aw
  split at h
  ·rename_i aj
   split at h
   ·rename_i ds s2 bL
    simp only [Option.some.injEq, Prod.mk.injEq] at h
    obtain ⟨rfl, rfl⟩ := h
    obtain ⟨ms, aa, ab, aE⟩ := Bb bL
    refine ⟨ms, aa, ab, fun ak U => ?_⟩
    have := aE ak U
    simp only at this
    simp only [c_, aw, if_pos aj, this]
   ·cases h
  ·cases h
 ·cases h
theorem HU {av : j} (h : di s x = some (av, s1)) : Loc x.U x.U (fun s => di s x) s av s1 := by
 unfold di at h
 split at h
 ·cases h
 ·rename_i d s2 kk aP
  simp only [Option.some.injEq, Prod.mk.injEq] at h
  obtain ⟨rfl, rfl⟩ := h
  obtain ⟨ms, aa, ab, aE⟩ := oN aP
  refine ⟨ms, aa, ab, fun ak U => ?_⟩
  have := aE ak U
  simp only at this
  simp only [di, this]
 ·cases h
theorem HV {av : j} (h : h4 s x = some (av, s1)) : Loc x.U [] (fun s => h4 s x) s av s1 := by
 unfold h4 at h
 split at h
 ·rename_i y q
  split at h
  ·rename_i ds kB
   split at h
   ·cases h
   ·rename_i rK
    simp only [Option.some.injEq, Prod.mk.injEq] at h
    obtain ⟨rfl, rfl⟩ := h
    refine .pure fun ak U => ?_
    have e : ak y = s y := U y (by simp [j.U])
    simp only [h4, e, kB, if_neg rK]
  ·cases h
 ·cases h
theorem HW {s2 : ag} (h : de C s T x y = some s2) : Loc (x.U ++ y.U) (x.U ++ y.U) (fun s => (de C s T x y).map fun s1 => (j.hole, s1)) s .hole s2 := by
 unfold de at h
 split at h
 ·rename_i d s1 z q aP hl
  obtain ⟨ms, aa, ab, aE⟩ := oN aP
  have bw := xF hl
  have cT : q ≠ [] := by
   cases x with
   | h y p =>
     simp only [loc] at hl
     split at hl
     ·simp only [Option.some.injEq, Prod.mk.injEq] at hl; simp [← hl.2]
     ·cases hl
   | ao y p =>
     simp only [loc] at hl
     split at hl
     ·rename_i lV
      simp only [Option.some.injEq, Prod.mk.injEq] at hl
      obtain ⟨rfl, rfl⟩ := hl
      intro e; subst e; simp [j.ei] at lV
     ·cases hl
   | _ => simp [loc] at hl
  split at h
  ·cases h
  ·rename_i bj kk
   split at h
   ·rename_i d0 kg
    split at h
    ·rename_i aj
     simp only [Option.some.injEq] at h; subst h
     refine ⟨ms ++ [⟨.bJ, z, j.put q d (s z)⟩], ?_, ?_, ?_⟩
     ·rw [jy, ← aa, r1]
     ·intro m hm
      simp only [List.mem_append, List.mem_singleton] at hm ⊢
      rcases hm with hm | rfl
      ·exact ⟨.inr (ab m hm).1, (ab m hm).2⟩
      ·exact ⟨.inl bw, r4 q _ _ _ kg (.inr cT) fun e => (cT e).elim⟩
     ·intro ak U
      have aJ := aE ak U.right
      simp only at aJ
      simp only [de, aJ, xE U.left, hl, U.left z bw, kg]
      cases d <;> first | (simp only [if_pos aj, Option.map_some, jy, r1]; done) | exact (kk _ rfl).elim
    ·cases h
   ·cases h
 ·cases h
theorem HX {cy az : Option j} {av : j} (h : dx C s T x cy az = some (av, s1)) : Loc x.U x.U (fun s => dx C s T x cy az) s av s1 := by
 cases x with
 | h y q =>
   unfold dx at h
   split at h <;> first | (cases h; done) | skip
   all_goals (rename_i ai; try cases ai)
   rename_i e aw
   split at h
   ·rename_i sz xs dU
    split at h
    ·rename_i b lf lg
     split at h
     ·rename_i aj
      split at h
      ·rename_i d s2 aP
       simp only [Option.some.injEq, Prod.mk.injEq] at h
       obtain ⟨rfl, rfl⟩ := h
       obtain ⟨ms, aa, ab, aE⟩ := oN aP
       refine ⟨ms, aa, ab, fun ak U => ?_⟩
       have := aE ak U
       simp only at this
       have aJ : ak y = s y := U y (by simp [j.U])
       simp only [dx, aw, aJ, dU, lf, lg, if_pos aj, this]
      ·cases h
     ·cases h
    ·cases h
   ·cases h
 | _ =>
   have m7 : s1 = s := by
    unfold dx at h
    repeat' split at h
    all_goals first | (cases h; done) | (simp only [Option.some.injEq, Prod.mk.injEq] at h; exact h.2.symm) | simp_all
   subst m7
   refine .pure fun ak _ => ?_
   unfold dx at h ⊢
   repeat' split at h
   all_goals first
    | (cases h; done)
    | (simp only [Option.some.injEq, Prod.mk.injEq] at h
       obtain ⟨rfl, _⟩ := h
       simp_all)
def mD (C : bN) (e : TypeId) (s : ag) : j → Option (j × ag)
 | .a_ => some (j.ay (C.T e).sz [], s)
 | .h a q => cd s (.h a q)
 | _ => none
def jh (s1 : ag) : j → Option (List j × ag)
 | .a_ => some ([], s1)
 | .slice bM => some (bM, s1)
 | .str l => some (l.map iK, s1)
 | .h a q => match cd s1 (.h a q) with
   | some (.ay _ bM, s2) => some (bM, s2)
   | _ => none
 | _ => none
theorem xH (C : bN) (s : ag) (T bn : TypeId) (x y : j) : jX C s T bn x y = (match (C.T T).k with
 | .slice e => if (C.T e).ok = true ∧ (C.T e).zero.wd = (C.T e).sz ∧ (flat (C.T e).zero).isSome = true ∧ tZ C e bn = true then
   match mD C e s x with
   | some (.ay sz xs, s1) => if sz = (C.T e).sz then
     match jh s1 (iU x.owner y) with
     | some (bM, s2) => if (∀ d ∈ bM, d.wd = (C.T e).sz) ∧ (xs.length + bM.length) * (C.T e).bytes ≤ 140737488355328 ∧ xs.length + bM.length ≤ 9223372036854775807 then some (.ay sz (xs ++ bM), s2) else none
     | none => none
     else none
   | _ => none
   else none
 | _ => none) := by
 unfold jX
 generalize iU x.owner y = iH
 cases (C.T T).k <;> first
  | rfl
  | (cases x <;> cases iH <;> rfl)
theorem HY {e : TypeId} {d : j} (aa : mD C e s x = some (d, s1)) : Loc x.U x.U (fun s => mD C e s x) s d s1 := by
 cases x with
 | a_ =>
   simp only [mD, Option.some.injEq, Prod.mk.injEq] at aa
   obtain ⟨aa, rfl⟩ := aa
   exact .pure fun ak _ => by simp only [mD, aa]
 | h a q => exact oN aa
 | _ => simp [mD] at aa
theorem HZ {bM : List j} (ab : jh s y = some (bM, s1)) : Loc y.U y.U (fun s => jh s y) s bM s1 := by
 cases y with
 | a_ =>
   simp only [jh, Option.some.injEq, Prod.mk.injEq] at ab
   obtain ⟨rfl, rfl⟩ := ab
   exact .pure fun ak _ => rfl
 | slice bM =>
   simp only [jh, Option.some.injEq, Prod.mk.injEq] at ab
   obtain ⟨rfl, rfl⟩ := ab
   exact .pure fun ak _ => rfl
 | str l =>
   simp only [jh, Option.some.injEq, Prod.mk.injEq] at ab
   obtain ⟨rfl, rfl⟩ := ab
   exact .pure fun ak _ => rfl
 | h a q =>
   simp only [jh] at ab
   split at ab
   ·rename_i Hd aab jz aP
    simp only [Option.some.injEq, Prod.mk.injEq] at ab
    obtain ⟨rfl, rfl⟩ := ab
    obtain ⟨ms, aV, bo, b8⟩ := oN aP
    refine ⟨ms, aV, bo, fun ak U => ?_⟩
    have := b8 ak U
    simp only at this
    simp only [jh, this]
   ·cases ab
 | _ => simp [jh] at ab
theorem H0 {av : j} (h : jX C s T A x y = some (av, s1)) : Loc (x.U ++ y.U) (x.U ++ y.U) (fun s => jX C s T A x y) s av s1 := by
 rw [xH] at h
 split at h
 ·rename_i e aw
  split at h
  ·rename_i aj
   split at h
   ·rename_i sz xs s2 aa
    split at h
    ·rename_i dI
     split at h
     ·rename_i bM ff ab
      split at h
      ·rename_i ov
       simp only [Option.some.injEq, Prod.mk.injEq] at h
       obtain ⟨rfl, rfl⟩ := h
       obtain ⟨l0, rfl, cC, a3⟩ := HY aa
       obtain ⟨oO, rfl, hs, hS⟩ := (HZ ab).mono (xG _ _) (xG _ _)
       refine ⟨l0 ++ oO, (jy _ _ _).symm, ?_, ?_⟩
       ·intro m hm
        simp only [List.mem_append] at hm ⊢
        rcases hm with hm | hm
        ·exact ⟨.inl (cC m hm).1, (cC m hm).2⟩
        ·exact ⟨.inr (hs m hm).1, (hs m hm).2⟩
       ·intro ak U
        have aJ := a3 ak U.left
        have aT := hS (cL l0 ak) (U.right.cL l0)
        simp only at aJ aT
        simp only [xH, aw, if_pos aj, aJ, if_pos dI, aT, if_pos ov, jy]
      ·cases h
     ·cases h
    ·cases h
   ·cases h
  ·cases h
 ·cases h
theorem Bc {bd : eD} {av : j} (h : br C s bd = some (av, s1)) : Loc (use s bd) (cH s bd) (fun s => br C s bd) s av s1 := by
 cases bd with
 | shr bd => simp [br] at h
 | ki f args u x => simp [br] at h
 | jg f args L => simp [br] at h
 | h4 T x =>
   obtain ⟨ms, aa, ab, aE⟩ := HV h
   refine ⟨ms, aa, ab, fun ak U => ?_⟩
   simp only [br, ax.fe (x := x) U]
   exact aE ak (c5.aD U)
 | hH T bn x y =>
   simp only [br, Option.map_eq_some_iff, Prod.mk.injEq] at h
   obtain ⟨d, af, rfl, rfl⟩ := h
   exact .pure fun ak U => by
    simp only [use] at U
    simp only [br, ax.fe (x := x) U.left, ax.fe (x := y) U.right, af, Option.map_some]
 | bad => simp [br] at h
 | mB g8 x y =>
   simp only [br, Option.map_eq_some_iff, Prod.mk.injEq] at h
   obtain ⟨d, af, rfl, rfl⟩ := h
   exact .pure fun ak U => by
    simp only [use] at U
    simp only [br, ax.fe (x := x) U.left, ax.fe (x := y) U.right, af, Option.map_some]
 | cap T x =>
   simp only [br] at h
   split at h
   ·rename_i e aw ai
    simp only [Option.some.injEq, Prod.mk.injEq] at h
    obtain ⟨rfl, rfl⟩ := h
    exact .pure fun ak U => by simp only [br, ax.fe (x := x) U, aw, ai]
   ·cases h
 | ae x =>
   simp only [br, Option.some.injEq, Prod.mk.injEq] at h
   obtain ⟨rfl, rfl⟩ := h
   exact .pure fun ak U => by simp only [br, ax.fe (x := x) U]
 | an x =>
   simp only [br] at h
   split at h
   ·rename_i y q ai
    obtain ⟨ms, aa, ab, aE⟩ := oN h
    refine ⟨ms, aa, by simpa only [cH, ai] using ab, fun ak U => ?_⟩
    have e := ax.fe (x := x) U
    have aT := aE ak (by rw [← ai]; exact c5.aD U)
    simp only [br, e, ai]
    exact aT
   ·rename_i aac
    simp only [Option.some.injEq, Prod.mk.injEq] at h
    obtain ⟨rfl, rfl⟩ := h
    refine .pure fun ak U => ?_
    have e := ax.fe (x := x) U
    simp only [br, e]
 | pick c a b =>
   simp only [br] at h
   split at h
   ·rename_i ew J
    simp only [Option.some.injEq, Prod.mk.injEq] at h
    obtain ⟨rfl, rfl⟩ := h
    refine .pure fun ak U => ?_
    simp only [use] at U
    simp only [br, ax.fe (x := c) U.left, ax.fe (x := a) U.right.left, ax.fe (x := b) U.right.right, J]
   ·cases h
 | eV T =>
   simp only [br, Option.map_eq_some_iff, Prod.mk.injEq] at h
   obtain ⟨d, af, rfl, rfl⟩ := h
   exact .pure fun ak U => by simp only [br, af, Option.map_some]
 | di T x =>
   obtain ⟨ms, aa, ab, aE⟩ := HU h
   refine ⟨ms, aa, ab, fun ak U => ?_⟩
   simp only [br, ax.fe (x := x) U]
   exact aE ak (c5.aD U)
 | ft T ps =>
   obtain ⟨ms, aa, ab, aE⟩ := HS h
   simp only [List.map_map, Function.comp_def] at ab aE
   refine ⟨ms, aa, ab, fun ak U => ?_⟩
   simp only [br, ax.xD (ps := ps) U]
   refine aE ak (U.sub fun u hu => ?_)
   simp only [use]
   exact ax.ui u (by simpa [List.map_map, Function.comp_def] using hu)
 | c_ T n ps =>
   obtain ⟨ms, aa, ab, aE⟩ := HT h
   simp only [List.map_map, Function.comp_def] at ab aE
   refine ⟨ms, aa, ab, fun ak U => ?_⟩
   simp only [br, ax.xD (ps := ps) U]
   refine aE ak (U.sub fun u hu => ?_)
   simp only [use]
   exact ax.ui u (by simpa [List.map_map, Function.comp_def] using hu)
 | aW T x =>
   simp only [br, Option.map_eq_some_iff, Prod.mk.injEq] at h
   obtain ⟨d, af, rfl, rfl⟩ := h
   exact .pure fun ak U => by simp only [br, ax.fe (x := x) U, HI (c5.aD U), af, Option.map_some]
 | de T x y =>
   simp only [br, Option.map_eq_some_iff, Prod.mk.injEq] at h
   obtain ⟨s2, af, rfl, rfl⟩ := h
   obtain ⟨ms, aa, ab, aE⟩ := HW af
   refine ⟨ms, aa, ab, fun ak U => ?_⟩
   simp only [use] at U
   simp only [br, ax.fe (x := x) U.left, ax.fe (x := y) U.right]
   exact aE ak (U.sub fun u hu => by simp only [List.mem_append] at hu ⊢; exact hu.imp (ax.oM u) (ax.oM u))
 | dw x =>
   simp only [br, Option.map_eq_some_iff, Prod.mk.injEq] at h
   obtain ⟨d, af, rfl, rfl⟩ := h
   exact .pure fun ak U => by simp only [br, ax.fe (x := x) U, HQ (c5.aD U), af, Option.map_some]
 | aK op T x y =>
   simp only [br, Option.map_eq_some_iff, Prod.mk.injEq] at h
   obtain ⟨d, af, rfl, rfl⟩ := h
   refine .pure fun ak U => ?_
   simp only [use] at U
   simp only [br, ax.fe (x := x) U.left, ax.fe (x := y) U.right, HP (c5.aD U.left), af, Option.map_some]
 | un op x =>
   simp only [br, Option.map_eq_some_iff, Prod.mk.injEq] at h
   obtain ⟨d, af, rfl, rfl⟩ := h
   exact .pure fun ak U => by simp only [br, ax.fe (x := x) U, af, Option.map_some]
 | ey A B x =>
   simp only [br, Option.map_eq_some_iff, Prod.mk.injEq] at h
   obtain ⟨d, af, rfl, rfl⟩ := h
   exact .pure fun ak U => by simp only [br, ax.fe (x := x) U, HM (c5.aD U), af, Option.map_some]
 | h5 f cs =>
   simp only [br, Option.some.injEq, Prod.mk.injEq] at h
   obtain ⟨rfl, rfl⟩ := h
   exact .pure fun ak U => by simp only [br, ax.xC (xs := cs) U]
 | eH T l c =>
   simp only [br, Option.map_eq_some_iff, Prod.mk.injEq] at h
   obtain ⟨d, af, rfl, rfl⟩ := h
   refine .pure fun ak U => ?_
   simp only [use] at U
   simp only [br, ax.fe (x := l) U.left, ax.fe (x := c) U.right, af, Option.map_some]
 | dx T x cy az =>
   simp only [br] at h
   obtain ⟨ms, aa, ab, aE⟩ := HX h
   refine ⟨ms, aa, ab, fun ak U => ?_⟩
   simp only [use] at U
   simp only [br, ax.fe (x := x) U.left, A7 U.right.left, A7 U.right.right]
   exact aE ak (c5.aD U.left)
 | bs T x k =>
   simp only [br, Option.map_eq_some_iff, Prod.mk.injEq] at h
   obtain ⟨d, af, rfl, rfl⟩ := h
   exact .pure fun ak U => by simp only [br, ax.fe (x := x) U, HJ (c5.aD U), af, Option.map_some]
 | cp T x i =>
   simp only [br, Option.map_eq_some_iff, Prod.mk.injEq] at h
   obtain ⟨d, af, rfl, rfl⟩ := h
   refine .pure fun ak U => ?_
   simp only [use] at U
   simp only [br, ax.fe (x := x) U.left, ax.fe (x := i) U.right, HK (c5.aD U.left), af, Option.map_some]
 | idx T x i =>
   simp only [br, Option.map_eq_some_iff, Prod.mk.injEq] at h
   obtain ⟨d, af, rfl, rfl⟩ := h
   refine .pure fun ak U => ?_
   simp only [use] at U
   simp only [br, ax.fe (x := x) U.left, ax.fe (x := i) U.right, af, Option.map_some]
 | ex x k =>
   simp only [br, Option.map_eq_some_iff, Prod.mk.injEq] at h
   obtain ⟨d, af, rfl, rfl⟩ := h
   exact .pure fun ak U => by simp only [br, ax.fe (x := x) U, HR (c5.aD U), af, Option.map_some]
 | call f args => simp [br] at h
 | len T x =>
   simp only [br, Option.map_eq_some_iff, Prod.mk.injEq] at h
   obtain ⟨d, af, rfl, rfl⟩ := h
   exact .pure fun ak U => by simp only [br, ax.fe (x := x) U, HL (c5.aD U), af, Option.map_some]
 | app T bn x y =>
   obtain ⟨ms, aa, ab, aE⟩ := H0 h
   refine ⟨ms, aa, ab, fun ak U => ?_⟩
   simp only [use] at U
   simp only [br, ax.fe (x := x) U.left, ax.fe (x := y) U.right]
   exact aE ak (U.sub fun u hu => by simp only [List.mem_append] at hu ⊢; exact hu.imp (ax.oM u) (ax.oM u))
end
def j.one : j → Bool
 | .agg _ => false
 | .tuple _ => false
 | _ => true
mutual
def view (s : ag) : j → Option j
 | .h x q => match j.sub q (s x) with
   | some d => (match d with | .tuple _ => none | d => if d.plain then none else some d.share)
   | none => none
 | .ao x q => if j.ei q (s x) then (match j.sub q (s x) with
   | some d => (match d with | .tuple _ => none | d => some (.ref d.share))
   | none => none) else none
 | .J _ _ => none
 | .fn f cap => (views s cap).map (.fn f)
 | .hole => none
 | d => some d
def views (s : ag) : List j → Option (List j)
 | [] => some []
 | d :: ds => match view s d, views s ds with
   | some a, some b => some (a :: b)
   | _, _ => none
end
mutual
theorem xI : ∀ d : j, d.share.plain = true
 | .hole => rfl
 | .bool _ => rfl
 | .dO => rfl
 | .int _ _ => rfl
 | .str _ => rfl
 | .cW => rfl
 | .a_ => rfl
 | .slice _ => rfl
 | .ay _ _ => rfl
 | .ref _ => rfl
 | .bD _ => rfl
 | .agg al => by simp only [j.share, j.plain]; exact xJ al
 | .tuple al => by simp only [j.share, j.plain]; exact xJ al
 | .fn _ _ => rfl
 | .h _ _ => rfl
 | .ao _ _ => rfl
 | .J _ _ => rfl
theorem xJ : ∀ ds : List j, j.dz (j.shares ds) = true
 | [] => rfl
 | d :: ds => by simp only [j.shares, j.dz]; rw [xI d, xJ ds]; rfl
end
theorem H2 {s : ag} {a d : j} (h : a.plain = true) (he : view s a = some d) : d.plain = true := by
 cases a with
 | h x q =>
   simp only [view] at he
   split at he
   ·rename_i e dU
    cases e <;> simp only at he <;> first
     | (cases he; done)
     | (split at he
        ·cases he
        ·simp only [Option.some.injEq] at he
         subst he; exact xI _)
   ·cases he
 | ao x q =>
   simp only [view] at he
   split at he
   ·split at he
    ·rename_i e dU
     cases e <;> simp only at he <;> first
      | (cases he; done)
      | (simp only [Option.some.injEq] at he; subst he; rfl)
    ·cases he
   ·cases he
 | fn f cap =>
   simp only [view, Option.map_eq_some_iff] at he
   obtain ⟨ds, _, rfl⟩ := he
   rfl
 | hole => simp [view] at he
 | J y q => simp [view] at he
 | _ => simp only [view, Option.some.injEq] at he; subst he; exact h
theorem xK {d : j} {v : Value} (aa : ∀ vs, d ≠ .tuple vs) (h : dt d v) : dt d.share v := by
 cases d <;> first | exact h | exact (aa _ rfl).elim
theorem H3 (w : World) : ∀ (q : List Nat) (av d bj : j) (cs cv : List Value) (a cf : Option (Nat × Nat)), j.sub q av = some d → bj.wd = d.wd → cJ w q av cs a = some (d, cv, cf) →
  cJ w q (j.put q bj av) cs a = some (bj, cv, cf) := by
 intro q
 induction q with
 | nil =>
   intro av d bj cs cv a cf af hw h
   simp only [cJ, Option.some.injEq, Prod.mk.injEq] at h
   obtain ⟨rfl, rfl, rfl⟩ := h
   simp only [j.put, cJ]
 | cons k q ih =>
   intro av d bj cs cv a cf af hw h
   cases av with
   | agg al =>
     simp only [j.sub] at af
     split at af
     ·rename_i x ai
      have aw : k < al.length := (List.getElem?_eq_some_iff.1 ai).1
      simp only [cJ, ai] at h
      simp only [j.put, ai, cJ]
      rw [List.getElem?_set_self aw]
      simp only [List.take_set_of_le (Nat.le_refl k), j.pM q x d bj af hw]
      exact ih _ _ _ _ _ _ _ af hw h
     ·cases af
   | tuple al =>
     simp only [j.sub] at af
     split at af
     ·rename_i x ai
      have aw : k < al.length := (List.getElem?_eq_some_iff.1 ai).1
      simp only [cJ, ai] at h
      simp only [j.put, ai, cJ]
      rw [List.getElem?_set_self aw]
      simp only [List.take_set_of_le (Nat.le_refl k), j.pM q x d bj af hw]
      exact ih _ _ _ _ _ _ _ af hw h
     ·cases af
   | ay sz al =>
     simp only [j.sub] at af
     split at af
     ·rename_i x ai
      have aw : k < al.length := (List.getElem?_eq_some_iff.1 ai).1
      have jw : (al.set k (j.put q bj x))[k]? = some (j.put q bj x) := List.getElem?_set_self aw
      simp only [j.put, ai]
      rw [cJ.eq_def] at h ⊢
      simp only [ai] at h
      simp only
      rw [jw]
      split at h
      ·rename_i aJ
       simp only [Option.some.injEq] at aJ; subst aJ
       exact ih _ _ _ _ _ _ _ af hw h
      ·cases h
     ·cases af
   | bD x =>
     cases k with
     | zero =>
       simp only [j.sub] at af
       rw [cJ.eq_def] at h ⊢
       simp only at h
       simp only [j.put]
       split at h
       ·rw [j.pM q x d bj af hw]
        exact ih _ _ _ _ _ _ _ af hw h
       ·cases h
     | succ k => simp [j.sub] at af
   | _ => simp [j.sub] at af
section
variable {w0 w aB : World} {F0 X F Fc : Nat → Prop} {S : Nat → Nat → Prop} {s ak : ag} {au gy : Nat → Value}
theorem H4 (h : bB w0 F0 X F S s au w) (bg : ∀ b, F b → Fc b) : ∀ n,
  (∀ (a : j) (v : Value) (d : j), SizeOf.sizeOf a ≤ n → (∀ t ∈ a.U, ∀ b, S t b → Fc b) → view s a = some d → aF w F s au a v (fun _ => False) → aF w Fc ak gy d v (fun _ => False)) ∧
  (∀ (as : List j) (vs : List Value) (ds : List j), SizeOf.sizeOf as ≤ n → (∀ t ∈ j.c2 as, ∀ b, S t b → Fc b) → views s as = some ds → dC w F s au as vs → dC w Fc ak gy ds vs) := by
 intro n
 induction n with
 | zero => exact ⟨fun a _ _ bw => by cases a <;> simp at bw <;> omega, fun as _ _ bw => by cases as <;> simp at bw <;> omega⟩
 | succ n ih =>
   refine ⟨fun a v d bw bE he aG => ?_, fun as vs ds bw bE he aG => ?_⟩
   ·cases a with
    | h x q =>
      simp only [view] at he
      split at he
      ·rename_i e dU
       have key : (∀ al, e ≠ .tuple al) ∧ e.plain = false ∧ d = e.share := by
        cases e <;> simp only at he <;> first
         | (cases he; done)
         | (split at he
            ·cases he
            ·rename_i gj
             simp only [Option.some.injEq] at he
             exact ⟨(fun _ h => by cases h), by simpa using gj, he.symm⟩)
       obtain ⟨kk, gj, rfl⟩ := key
       rw [aF] at aG
       obtain ⟨cv, cf, aV, bo, b8⟩ := aG e dU gj
       have aP := gX dU (.inl gj)
       have ai := (aF.cr aP).1 (h.c7 x)
       obtain ⟨eS, cC, dH, fB, k0, b9, cj, d_, dv, e1⟩ := ctx q (s x) (ch (au x)) (S x) none e ai.2 dU
       rw [aV] at k0
       simp only [Option.some.injEq, Prod.mk.injEq, true_and] at k0
       obtain ⟨rfl, rfl⟩ := k0
       have w5 : e.share.tree = true := by cases e <;> first | rfl | (simp [j.plain] at gj)
       have aO := aq.shared bg e cv fB (fun b J => bE x (by simp [j.U]) b (cj b J)) dv
       exact (aF.cr w5).2 ⟨xK kk b8, by rw [bo]; exact aO⟩
      ·cases he
    | ao x q =>
      simp only [view] at he
      split at he
      ·rename_i lV
       split at he
       ·rename_i e dU
        have key : (∀ al, e ≠ .tuple al) ∧ d = .ref e.share := by
         cases e <;> simp only at he <;> first
          | (cases he; done)
          | (simp only [Option.some.injEq] at he; exact ⟨(fun _ h => by cases h), he.symm⟩)
        obtain ⟨kk, rfl⟩ := key
        rw [aF] at aG
        obtain ⟨cv, b, o, aV, rfl⟩ := aG e dU lV
        have aP := gX dU (.inr lV)
        have ai := (aF.cr aP).1 (h.c7 x)
        obtain ⟨eS, cC, dH, fB, k0, b9, cj, d_, dv, e1⟩ := ctx q (s x) (ch (au x)) (S x) none e ai.2 dU
        rw [aV] at k0
        simp only [Option.some.injEq, Prod.mk.injEq, true_and] at k0
        obtain ⟨rfl, rfl⟩ := k0
        have aO := aq.shared bg e cv fB (fun b J => bE x (by simp [j.U]) b (cj b J)) dv
        rcases e1 with ⟨l, r, _, aT, _⟩ | ⟨ew, cur, ty, fr, l, r, aJ, aT, bb, cn, c1, _⟩
        ·simp at aT
        ·simp only [Option.some.injEq, Prod.mk.injEq] at aJ
         obtain ⟨rfl, rfl⟩ := aJ
         refine (aF.cr rfl).2 ⟨rfl, ?_⟩
         rw [aq]
         refine ⟨b, l.length, cv, rfl, bE x (by simp [j.U]) b (b9 b aT), ?_, aO⟩
         intro ar c cc
         simp only [World.cell?, bb]
         have aj : cur[l.length + ar]? = some c := by
          rw [← Array.getElem?_toList, c1, List.getElem?_append_right (by omega), List.getElem?_append_left (by
           have := (List.getElem?_eq_some_iff.1 cc).1; omega)]
          rw [← cc]; congr 1; omega
         simpa using aj
       ·cases he
      ·cases he
    | fn f cap =>
      simp only [view, Option.map_eq_some_iff] at he
      obtain ⟨ds, hI, rfl⟩ := he
      rw [aF] at aG
      obtain ⟨arr, rfl, aj⟩ := aG
      rw [aF]
      exact ⟨arr, rfl, ih.2 cap _ _ (by simp at bw; omega) (by simpa [j.U] using bE) hI aj⟩
    | hole => simp [view] at he
    | J y q => simp [view] at he
    | _ =>
      simp only [view, Option.some.injEq] at he; subst he
      have jU := (aF.cr rfl).1 aG
      exact (aF.cr rfl).2 ⟨jU.1, aq.mono bg _ _ _ _ (fun _ h => h) jU.2⟩
   ·cases as with
    | nil =>
      simp only [views, Option.some.injEq] at he; subst he
      rw [dC] at aG ⊢; exact aG
    | cons a as =>
      simp only [views] at he
      split at he
      ·rename_i d ds aa ab
       simp only [Option.some.injEq] at he; subst he
       rw [dC] at aG ⊢
       obtain ⟨v, iF, rfl, aV, bo⟩ := aG
       simp at bw
       simp only [j.c2, List.mem_append] at bE
       exact ⟨v, iF, rfl, ih.1 a v d (by omega) (fun t aP => bE t (.inl aP)) aa aV, ih.2 as iF ds (by omega) (fun t aP => bE t (.inr aP)) ab bo⟩
      ·cases he
theorem bB.ht (h : bB w0 F0 X F S s au w) {x : Nat} {q : List Nat} {d0 bj : j} {cv : List Value} {a : Option (Nat × Nat)} {Sn : Nat → Prop}
  (af : j.sub q (s x) = some d0) (bL : cJ w q (s x) (ch (au x)) none = some (d0, cv, a)) (ab : ∀ vs, bj ≠ .tuple vs) (aP : q = [] → bj.tree = true ∧ dt bj (au x))
  (aE : ∀ k p, q = k :: p → (s x).tree = true ∧ (∀ v, gW d0 v → gW bj v)) (hw : bj.wd = d0.wd)
  (aG : aq w F bj cv Sn) (dL : ∀ b, Sn b → b < w.heap.size) (bg : ∀ b, Sn b → ¬ F b) (bE : ∀ u b, Sn b → ¬ S u b) (bp : ∀ b, Sn b → X b ∨ w0.heap.size ≤ b) :
  bB w0 F0 X F (fD S x (fun b => S x b ∨ Sn b)) (cS (jS x s) x (j.put q bj (s x))) au w := by
 have dD : cS au x (au x) = au := by funext u; simp only [cS]; split <;> simp_all
 have main : (j.put q bj (s x)).tree = true ∧ dt (j.put q bj (s x)) (au x) ∧ aq w F (j.put q bj (s x)) (ch (au x)) (fun b => S x b ∨ Sn b) := by
  cases q with
  | nil =>
    simp only [cJ, Option.some.injEq, Prod.mk.injEq] at bL
    obtain ⟨aJ, aT, bb⟩ := bL
    obtain ⟨aV, bo⟩ := aP rfl
    simp only [j.put]
    refine ⟨aV, ?_, ?_⟩
    ·exact bo
    ·rw [aT]; exact aq.mono (fun _ h => h) _ _ _ _ (fun b J => .inr J) aG
  | cons k p =>
    obtain ⟨aV, bo⟩ := aE k p rfl
    have ai := (aF.cr aV).1 (h.c7 x)
    obtain ⟨eS, cC, dH, fB, k0, b9, cj, d_, dv, e1⟩ := ctx (k :: p) (s x) (ch (au x)) (S x) none d0 ai.2 af
    rw [bL] at k0
    simp only [Option.some.injEq, Prod.mk.injEq, true_and] at k0
    obtain ⟨rfl, rfl⟩ := k0
    refine ⟨?_, ?_, ?_⟩
    ·rcases oo k p bj (s x) with ⟨al, gs, aJ, e⟩ | ⟨al, gs, aJ, e⟩ | ⟨sz, xs, bM, aJ, e⟩ | ⟨y, z, aJ, e⟩ | e <;> rw [e] <;> first | rfl | exact aV
    ·refine wZ ai.1 af bo (fun _ vs e => (ab vs e).elim) hw
    ·have mono : ∀ b, (dH b ∨ Sn b) → (S x b ∨ Sn b) := fun b J => J.imp (b9 b) id
     rcases e1 with ⟨l, r, aJ, aT, bb⟩ | ⟨b, cur, ty, fr, l, r, aJ, aT, bb, cn, c1, b6⟩
     ·rw [aJ]
      exact aq.mono (fun _ h => h) _ _ _ _ mono (bb w bj cv Sn (fun _ _ => rfl) (fun _ _ => rfl) hw aG (fun b J aj => bE x b J (b9 b aj)))
     ·refine aq.mono (fun _ h => h) _ _ _ _ mono (b6 w bj cv Sn (fun _ _ => rfl) (fun _ _ _ => rfl) ?_ hw aG (fun b J aj => bE x b J (b9 b aj)))
      rw [bb, ← c1]
 have := h.zV (t := x) main.1 main.2.1 main.2.2 (by rintro b (J | J); exact h.dP x b J; exact dL b J) (by rintro b (J | J); exact h.e7 x b J; exact bg b J)
  (by rintro u b cZ (J | J); exact fun hu => h.eT u x b cZ hu J; exact bE u b J) (by rintro b (J | J); exact h.dd x b J; exact bp b J)
 rwa [dD] at this
end
mutual
def j.cY : j → Bool
 | .slice _ => false
 | .ref _ => false
 | .fn _ _ => false
 | .h _ _ => false
 | .ao _ _ => false
 | .J _ _ => false
 | .ay _ xs => j.h7 xs
 | .bD d => d.cY
 | .agg al => j.h7 al
 | .tuple al => j.h7 al
 | _ => true
def j.h7 : List j → Bool
 | [] => true
 | d :: ds => d.cY && j.h7 ds
end
mutual
theorem aq.cY {w : World} {F bA : Nat → Prop} : ∀ (d : j) (cs : List Value) (S : Nat → Prop), d.cY = true → aq w F d cs S → aq w bA d cs S
 | .hole, _, _, _, h => h
 | .bool _, _, _, _, h => h
 | .dO, _, _, _, h => h
 | .int _ _, _, _, _, h => h
 | .str _, _, _, _, h => h
 | .cW, _, _, _, h => h
 | .a_, _, _, _, h => h
 | .slice xs, cs, S, bh, h => by simp [j.cY] at bh
 | .ref d, cs, S, bh, h => by simp [j.cY] at bh
 | .ay sz xs, cs, S, bh, h => by
   rw [aq] at h ⊢
   rcases h with h | ⟨b, cap, cur, e, fr, aH, aa, ab, aE, aZ, bG, b7, b5, dG, gJ, fO, iS⟩
   ·exact .inl h
   ·exact .inr ⟨b, cap, cur, e, fr, aH, aa, ab, aE, aZ, bG, b7, b5, dG, aU.cY xs _ _ bh gJ, fO, iS⟩
 | .bD d, cs, S, bh, h => by
   rw [aq] at h ⊢
   obtain ⟨b, cur, e, fr, aH, aa, ab, aE, aZ, bG, b7, b5⟩ := h
   exact ⟨b, cur, e, fr, aH, aa, ab, aE, aZ, aq.cY d _ _ bh bG, b7, b5⟩
 | .agg al, cs, S, bh, h => by rw [aq] at h ⊢; exact aU.cY al _ _ bh h
 | .tuple al, cs, S, bh, h => by rw [aq] at h ⊢; exact aU.cY al _ _ bh h
 | .fn _ _, _, _, _, h => h
 | .h _ _, _, _, _, h => h
 | .ao _ _, _, _, _, h => h
 | .J _ _, _, _, _, h => h
theorem aU.cY {w : World} {F bA : Nat → Prop} : ∀ (ds : List j) (cs : List Value) (S : Nat → Prop), j.h7 ds = true → aU w F ds cs S → aU w bA ds cs S
 | [], _, _, _, h => h
 | d :: ds, cs, S, bh, h => by
   simp only [j.h7, Bool.and_eq_true] at bh
   rw [aU] at h ⊢
   obtain ⟨bT, b4, bW, c6, aa, ab, aE, aZ, bG, b7⟩ := h
   exact ⟨bT, b4, bW, c6, aa, aq.cY d _ _ bh.1 ab, aU.cY ds _ _ bh.2 aE, aZ, bG, b7⟩
end
theorem Bd : ∀ (q : List Nat) (av d e : j), j.sub q av = some d → j.sub q (j.put q e av) = some e := by
 intro q
 induction q with
 | nil => intro av d e _; simp [j.put, j.sub]
 | cons k q ih =>
   intro av d e h
   cases av with
   | agg al =>
     simp only [j.sub] at h
     split at h
     ·rename_i x ai
      have aw : k < al.length := (List.getElem?_eq_some_iff.1 ai).1
      simp only [j.put, ai, j.sub, List.getElem?_set_self aw]
      exact ih _ _ _ h
     ·cases h
   | tuple al =>
     simp only [j.sub] at h
     split at h
     ·rename_i x ai
      have aw : k < al.length := (List.getElem?_eq_some_iff.1 ai).1
      simp only [j.put, ai, j.sub, List.getElem?_set_self aw]
      exact ih _ _ _ h
     ·cases h
   | ay sz al =>
     simp only [j.sub] at h
     split at h
     ·rename_i x ai
      have aw : k < al.length := (List.getElem?_eq_some_iff.1 ai).1
      simp only [j.put, ai, j.sub, List.getElem?_set_self aw]
      exact ih _ _ _ h
     ·cases h
   | bD x =>
     cases k with
     | zero => simp only [j.sub] at h; simp only [j.put, j.sub]; exact ih _ _ _ h
     | succ k => simp [j.sub] at h
   | _ => simp [j.sub] at h
structure b_ where
 a : j
 g : Bool
 d : j
 o : j
def j.own : j → Bool
 | .ay _ _ => true
 | .bD _ => true
 | _ => false
def j.e9 : j → Bool
 | .ay _ _ => true
 | .bD _ => true
 | .agg al => !j.dz al
 | _ => false
def oP (d o : j) : Bool := match d, o with
 | .agg a, .agg b => j.dm a == j.dm b
 | .agg _, _ => false
 | _, .agg _ => false
 | _, _ => true
theorem nF {d : j} (h : d.e9 = true) : d.plain = false ∧ d.tree = true ∧ ∀ vs, d ≠ .tuple vs := by
 cases d <;> simp [j.e9] at h <;> first | exact ⟨rfl, rfl, fun vs e => by cases e⟩ | exact ⟨by simp only [j.plain]; exact h, rfl, fun vs e => by cases e⟩
theorem H5 {d o : j} (h : d.e9 = true) (bP : o.e9 = true) (hl : oP d o = true) : o.wd = d.wd ∧ (∀ v, dt d v → dt o v) ∧ ∀ v, gW d.cD v → gW o v := by
 cases d <;> simp [j.e9] at h <;> cases o <;> simp [j.e9] at bP <;> simp [oP] at hl <;> first
  | exact ⟨rfl, fun _ h => h, fun _ h => h⟩
  | exact ⟨by simp only [j.wd]; exact hl.symm, fun _ h => h, fun _ h => h⟩
def b_.ok (s : ag) (p : b_) : Prop :=
 if p.g then (match p.a with | .h x q => j.sub q (s x) = some p.d ∧ p.d.e9 = true ∧ (p.o = .hole ∨ (p.o.e9 = true ∧ oP p.d p.o = true)) | _ => False)
 else view s p.a = some p.d
def gK : List b_ → Bool
 | [] => true
 | p :: r => (r.all fun b2 => !(p.g || b2.g) || (p.a.U.all fun u => !b2.a.U.contains u)) && gK r
def b_.take (s : ag) (p : b_) : ag :=
 if p.g then (match p.a with | .h x q => cS (g9 x s) x (j.put q p.d.cD (s x)) | _ => s) else s
def b_.ht (s : ag) (p : b_) : ag :=
 if p.g then (match p.a, p.o with | _, .hole => s | .h x q, o => cS (jS x s) x (j.put q o (s x)) | _, _ => s) else s
def dR (s : ag) (ps : List b_) : ag := ps.foldl b_.take s
def gf (s : ag) (ps : List b_) : ag := ps.foldl b_.ht s
section
variable {w0 w aB : World} {F0 X F Fc : Nat → Prop} {S : Nat → Nat → Prop} {s ak : ag} {au gy : Nat → Value}
def H6 (w : World) (F : Nat → Prop) (s1 : ag) (au : Nat → Value) (p : b_) (v : Value) (Sn : Nat → Prop) : Prop :=
 ∃ x q a0, p.a = .h x q ∧ j.sub q (s1 x) = some p.d.cD ∧ cJ w q (s1 x) (ch (au x)) none = some (p.d.cD, ch v, a0) ∧ (s1 x).U = [] ∧ (q = [] → dt p.d (au x)) ∧ (q ≠ [] → (s1 x).tree = true) ∧
   dt p.d v ∧ aq w F p.d (ch v) Sn
theorem H7 {p : b_} {x : Nat} (h : (s x).U = []) (ao : p.g = true → x ∉ p.a.U) : b_.take s p x = s x := by
 unfold b_.take
 split
 ·rename_i bH
  cases b1 : p.a with
  | h y q =>
    have : x ≠ y := by
     have := ao bH
     rw [b1] at this
     simpa [j.U] using this
    simp only
    rw [ir _ _ this]
    exact r2 _ (by rw [h]; simp)
  | _ => rfl
 ·rfl
theorem xL : ∀ {ps : List b_} {s : ag} {x : Nat}, (s x).U = [] → (∀ p ∈ ps, p.g = true → x ∉ p.a.U) → dR s ps x = s x := by
 intro ps
 induction ps with
 | nil => intros; rfl
 | cons p ps ih =>
   intro s x h ao
   have e := H7 (s := s) (p := p) h (ao p (by simp))
   show dR (b_.take s p) ps x = s x
   rw [ih (by rw [e]; exact h) (fun b2 dj => ao b2 (by simp [dj])), e]
theorem m8 {d : j} (h : d.own = true) : d.plain = false ∧ d.tree = true ∧ d.cD = .hole ∧ d.one = true ∧ d.wd = 1 ∧ (∀ v, dt d v ↔ Value.fz v = true) := by
 cases d <;> simp [j.own] at h <;> exact ⟨rfl, rfl, rfl, rfl, rfl, fun v => Iff.rfl⟩
theorem H8 : ∀ (ps : List b_) (vs : List Value) (s : ag) (S : Nat → Nat → Prop), bB w0 F0 X F S s au w → ps.length = vs.length →
  (∀ (i : Nat) (p : b_) (v : Value), ps[i]? = some p → vs[i]? = some v → p.a.plain = true ∧ aF w F s au p.a v (fun _ => False) ∧ (p.g = true → p.ok s)) → gK ps = true →
  ∃ (Sn bW : Nat → Nat → Prop), bB w0 F0 X F bW (dR s ps) au w ∧ (∀ u b, bW u b → S u b) ∧
    (∀ (i : Nat) (p : b_) (v : Value), ps[i]? = some p → vs[i]? = some v → p.g = true → H6 w F (dR s ps) au p v (Sn i)) ∧
    (∀ i b, Sn i b → ∃ p, ps[i]? = some p ∧ p.g = true) ∧
    (∀ i b, Sn i b → ∃ u, S u b) ∧ (∀ i u b, Sn i b → ¬ bW u b) ∧ (∀ i ar b, i ≠ ar → Sn i b → ¬ Sn ar b) ∧
    (∀ (bj : j) (e8 : Value) (aH : Nat → Prop), (∀ p ∈ ps, p.g = true → ∀ u ∈ p.a.U, u ∉ bj.U) → aF w F s au bj e8 aH → aF w F (dR s ps) au bj e8 aH) := by
 intro ps
 induction ps with
 | nil =>
   intro vs s S h hl _ _
   exact ⟨fun _ _ => False, S, h, fun _ _ h => h, fun i p v ao => by simp at ao, fun _ _ h => h.elim, fun _ _ h => h.elim, fun _ _ _ h => h.elim, fun _ _ _ _ h => h.elim, fun _ _ _ _ h => h⟩
 | cons p ps ih =>
   intro vs s S h hl rW iX
   cases vs with
   | nil => simp at hl
   | cons v vs =>
     simp only [List.length_cons, Nat.add_right_cancel_iff] at hl
     simp only [gK, Bool.and_eq_true, List.all_eq_true, Bool.or_eq_true, Bool.not_eq_true'] at iX
     obtain ⟨l1, lq⟩ := iX
     have p5 : ∀ b2 ∈ ps, (p.g = true ∨ b2.g = true) → ∀ u ∈ p.a.U, u ∉ b2.a.U := by
      intro b2 dj bH u hu
      rcases l1 b2 dj with e | e
      ·rcases bH with bH | bH <;> simp [bH] at e
      ·simpa using e u hu
     obtain ⟨f1, f2, f3⟩ := rW 0 p v rfl rfl
     cases bH : p.g with
     | false =>
       have fE : b_.take s p = s := by simp [b_.take, bH]
       obtain ⟨Sn, bW, aV, bo, b8, dn, eg, gA, ha, jv⟩ := ih vs s S h hl (fun i b2 e8 ao aG => rW (i + 1) b2 e8 (by simpa using ao) (by simpa using aG)) lq
       have aJ : dR s (p :: ps) = dR s ps := by show dR (b_.take s p) ps = _; rw [fE]
       rw [aJ]
       refine ⟨fun i => match i with | 0 => fun _ => False | i + 1 => Sn i, bW, aV, bo, ?_, ?_, ?_, ?_, ?_, fun bj e8 aH af => jv bj e8 aH fun b2 dj => af b2 (by simp [dj])⟩
       ·intro i b2 e8 ao aG fR
        cases i with
        | zero => simp at ao; subst ao; rw [bH] at fR; cases fR
        | succ i => exact b8 i b2 e8 (by simpa using ao) (by simpa using aG) fR
       ·intro i b J
        cases i with
        | zero => exact J.elim
        | succ i => simpa using dn i b J
       ·intro i b J
        cases i with
        | zero => exact J.elim
        | succ i => exact eg i b J
       ·intro i u b J
        cases i with
        | zero => exact J.elim
        | succ i => exact gA i u b J
       ·intro i ar b cZ az cc
        cases i with
        | zero => exact az.elim
        | succ i =>
          cases ar with
          | zero => exact cc.elim
          | succ ar => exact ha i ar b (by omega) az cc
     | true =>
       have fi := f3 bH
       simp only [b_.ok, bH, if_true] at fi
       split at fi
       ·rename_i x q b1
        obtain ⟨dU, r5, rG⟩ := fi
        obtain ⟨kH, l3, uk⟩ := nF r5
        have H9 : cd s p.a = some (p.d, cS (g9 x s) x (j.put q p.d.cD (s x))) := by
         rw [b1]; simp only [cd, dU, kH]; rfl
        obtain ⟨bW, t1, t2, t3, H_, t4, t5, t6, t7, t8, t9, t10, t11⟩ := nw h f1 f2 H9
        have fE : b_.take s p = cS (g9 x s) x (j.put q p.d.cD (s x)) := by simp [b_.take, bH, b1]
        have l4 : ∀ b2 ∈ ps, x ∉ b2.a.U := fun b2 dj => p5 b2 dj (.inl bH) x (by rw [b1]; simp [j.U])
        have xM : b_.take s p x = j.put q p.d.cD (s x) := by rw [fE, k_]
        have um : (b_.take s p x).U = [] := by
         rw [xM]; exact r4 q _ _ _ dU (.inl kH) (fun _ => by cases af : p.d <;> first | rfl | (rw [af] at r5; simp [j.e9] at r5))
        obtain ⟨Sn, c6, aV, bo, b8, dn, eg, gA, ha, jv⟩ := ih vs (b_.take s p) bW (by rw [fE]; exact t1) hl (by
         intro i b2 e8 ao aG
         obtain ⟨b9, cj, d_⟩ := rW (i + 1) b2 e8 (by simpa using ao) (by simpa using aG)
         have hm : b2 ∈ ps := List.mem_of_getElem? ao
         refine ⟨b9, ?_, ?_⟩
         ·have := t11 _ _ _ cj
          rw [b1] at this
          rw [fE]
          simp only [j.owner, iU] at this
          rwa [r2 _ (l4 b2 hm)] at this
         ·intro fR
          have := d_ fR
          simp only [b_.ok, fR, if_true] at this ⊢
          split at this
          ·rename_i y hE oQ
           have cZ : y ≠ x := fun e => l4 b2 hm (by rw [oQ, e]; simp [j.U])
           rw [fE, ir _ _ cZ]
           have aP := gX this.1 (.inl (nF this.2.1).1)
           simp only [g9, wX aP]
           exact this
          ·exact this.elim) lq
        have aJ : dR s (p :: ps) = dR (b_.take s p) ps := rfl
        have nG : dR (b_.take s p) ps x = j.put q p.d.cD (s x) := by
         rw [xL um (fun b2 dj _ => l4 b2 dj), xM]
        rw [aJ]
        refine ⟨fun i => match i with | 0 => H_ | i + 1 => Sn i, c6, aV, fun u b J => t9 u b (bo u b J), ?_, ?_, ?_, ?_, ?_, ?_⟩
        rotate_left 5
        ·intro bj e8 aH af hv
         refine jv bj e8 aH (fun b2 dj => af b2 (by simp [dj])) ?_
         have := t11 _ _ _ hv
         rw [b1] at this
         rw [fE]
         simp only [j.owner, iU] at this
         rwa [r2 _ (af p (by simp) bH x (by rw [b1]; simp [j.U]))] at this
        ·intro i b2 e8 ao aG fR
         cases i with
         | zero =>
           simp at ao aG; subst ao aG
           have uo := f2
           rw [b1, aF] at uo
           obtain ⟨cv, a0, bT, b4, Be⟩ := uo _ dU kH
           refine ⟨x, q, a0, b1, ?_, ?_, ?_, ?_, ?_, t3, t4⟩
           ·rw [nG]; exact Bd q _ _ _ dU
           ·rw [nG, b4]; exact H3 w q _ _ _ _ _ _ _ dU (j.nu _) bT
           ·rw [nG, ← xM]; exact um
           ·intro cT; subst cT
            simp only [j.sub, Option.some.injEq] at dU
            have := (aF.cr (by rw [dU]; exact l3)).1 (h.c7 x)
            rw [dU] at this
            exact this.1
           ·intro cT
            have aP := gX dU (.inl kH)
            rw [nG]
            cases q with
            | nil => exact (cT rfl).elim
            | cons k q => rcases oo k q p.d.cD (s x) with ⟨al, gs, aJ, e⟩ | ⟨al, gs, aJ, e⟩ | ⟨sz, xs, bM, aJ, e⟩ | ⟨y, z, aJ, e⟩ | e <;> rw [e] <;> first | rfl | exact aP
         | succ i => exact b8 i b2 e8 (by simpa using ao) (by simpa using aG) fR
        ·intro i b J
         cases i with
         | zero => exact ⟨p, rfl, bH⟩
         | succ i => simpa using dn i b J
        ·intro i b J
         cases i with
         | zero => exact t10 b J
         | succ i => obtain ⟨u, hu⟩ := eg i b J; exact ⟨u, t9 u b hu⟩
        ·intro i u b J
         cases i with
         | zero => exact fun hu => t7 u b J (bo u b hu)
         | succ i => exact gA i u b J
        ·intro i ar b cZ az cc
         cases i with
         | zero =>
           cases ar with
           | zero => exact cZ rfl
           | succ ar => obtain ⟨u, hu⟩ := eg ar b cc; exact t7 u b az hu
         | succ i =>
           cases ar with
           | zero => obtain ⟨u, hu⟩ := eg i b az; exact t7 u b cc hu
           | succ ar => exact ha i ar b (by omega) az cc
       ·exact fi.elim
end
def eI (l : List j) : ag := fun i => l.getD i .hole
def fS (l : List Value) : Nat → Value := fun i => l.getD i undef
def lr (P : Program) (f : FuncId) (args : Array Value) (w : World) (dW : Value → World → Prop) : Prop :=
 ((callFunc f args).run P w = .ok (.enter f args) w ∧ Calls P f args w (fun e aB => ∃ v, e = .returned v ∧ dW v aB)) ∨
 ∃ v aB, (callFunc f args).run P w = .ok (.value v) aB ∧ dW v aB
theorem lr.mono {P : Program} {f : FuncId} {args : Array Value} {w : World} {dW Bf : Value → World → Prop} (h : lr P f args w dW) (aO : ∀ v aB, dW v aB → Bf v aB) : lr P f args w Bf := by
 rcases h with ⟨aa, ab⟩ | ⟨v, aB, aa, ab⟩
 ·exact .inl ⟨aa, Calls.mono ab fun e aB ⟨v, e, h⟩ => ⟨v, e, aO v aB h⟩⟩
 ·exact .inr ⟨v, aB, aa, aO v aB ab⟩
def aX (C : bN) (f : FuncId) (as : List j) (r : j) (outs : List j) : Prop :=
 ∀ (w : World) (F X : Nat → Prop) (S : Nat → Nat → Prop) (vs : List Value), vs.length = as.length → bB w F X F S (eI as) (fS vs) w →
   lr C.P f vs.toArray w fun v aB => ∃ bA aH, bB w F X bA aH (eI (r :: outs)) (fS (v :: vs)) aB
def j.res : j → Bool
 | .h _ _ => false
 | .ao _ _ => false
 | .J _ _ => false
 | .fn _ _ => false
 | _ => true
theorem xN {d : j} (h : d.tree = true) : d.U = [] := by cases d <;> first | rfl | (simp [j.tree] at h)
mutual
theorem xO {s ak : ag} : ∀ (a : j) (d : j), (∀ u ∈ a.U, (s u).tree = true → ak u = s u) → view s a = some d → view ak a = some d
 | .h x q, d, hu, h => by
   have aP : (s x).tree = true := by
    simp only [view] at h
    split at h
    ·rename_i e dU
     cases e <;> simp only at h <;> first
      | (cases h; done)
      | (split at h
         ·cases h
         ·rename_i ao
          exact gX dU (.inl (by simpa using ao)))
    ·cases h
   simp only [view] at h ⊢
   rw [hu x (by simp [j.U]) aP]; exact h
 | .ao x q, d, hu, h => by
   have aP : (s x).tree = true := by
    simp only [view] at h
    split at h
    ·rename_i aj
     split at h
     ·rename_i e dU; exact gX dU (.inr aj)
     ·cases h
    ·cases h
   simp only [view] at h ⊢
   rw [hu x (by simp [j.U]) aP]; exact h
 | .J x q, d, hu, h => by simp [view] at h
 | .fn f cap, d, hu, h => by
   simp only [view, Option.map_eq_some_iff] at h ⊢
   obtain ⟨ds, aa, ab⟩ := h
   exact ⟨ds, Bg cap ds (by simpa [j.U] using hu) aa, ab⟩
 | .hole, d, hu, h => h
 | .bool _, d, hu, h => h
 | .dO, d, hu, h => h
 | .int _ _, d, hu, h => h
 | .str _, d, hu, h => h
 | .cW, d, hu, h => h
 | .a_, d, hu, h => h
 | .slice _, d, hu, h => h
 | .ay _ _, d, hu, h => h
 | .ref _, d, hu, h => h
 | .bD _, d, hu, h => h
 | .agg _, d, hu, h => h
 | .tuple _, d, hu, h => h
theorem Bg {s ak : ag} : ∀ (as : List j) (ds : List j), (∀ u ∈ j.c2 as, (s u).tree = true → ak u = s u) → views s as = some ds → views ak as = some ds
 | [], ds, hu, h => h
 | a :: as, ds, hu, h => by
   simp only [j.c2, List.mem_append] at hu
   simp only [views] at h ⊢
   split at h
   ·rename_i x y aa ab
    rw [xO a x (fun u hm => hu u (.inl hm)) aa, Bg as y (fun u hm => hu u (.inr hm)) ab]; exact h
   ·cases h
end
section
variable {C : bN} {w0 w aB : World} {F0 X F Fc : Nat → Prop} {S : Nat → Nat → Prop} {s ak : ag} {au gy : Nat → Value}
def Ia (w : World) (F : Nat → Prop) (s : ag) (au : Nat → Value) (p : b_) (v : Value) (So : Nat → Prop) : Prop :=
 p.g = true → p.o = .hole ∨ ∃ x q a0 d0, p.a = .h x q ∧ j.sub q (s x) = some d0 ∧ cJ w q (s x) (ch (au x)) none = some (d0, ch v, a0) ∧ (s x).U = [] ∧
  (q = [] → dt p.o (au x)) ∧ (q ≠ [] → (s x).tree = true) ∧ p.o.e9 = true ∧ aq w F p.o (ch v) So ∧ p.o.wd = d0.wd ∧ ∀ v, gW d0 v → gW p.o v
theorem Ib : ∀ (ps : List b_) (vs : List Value) (s : ag) (S So : Nat → Nat → Prop), bB w0 F0 X F S s au w → ps.length = vs.length →
  (∀ (i : Nat) (p : b_) (v : Value), ps[i]? = some p → vs[i]? = some v → Ia w F s au p v (So i)) →
  (∀ i b, So i b → b < w.heap.size ∧ ¬ F b ∧ (X b ∨ w0.heap.size ≤ b) ∧ ∀ u, ¬ S u b) → (∀ i ar b, i ≠ ar → So i b → ¬ So ar b) → gK ps = true →
  ∃ c6, bB w0 F0 X F c6 (gf s ps) au w ∧ ∀ u b, c6 u b → S u b ∨ ∃ i, So i b := by
 intro ps
 induction ps with
 | nil => intro vs s S So h _ _ _ _ _; exact ⟨S, h, fun u b J => .inl J⟩
 | cons p ps ih =>
   intro vs s S So h hl xP J af iX
   cases vs with
   | nil => simp at hl
   | cons v vs =>
     simp only [List.length_cons, Nat.add_right_cancel_iff] at hl
     simp only [gK, Bool.and_eq_true, List.all_eq_true, Bool.or_eq_true, Bool.not_eq_true'] at iX
     obtain ⟨l1, lq⟩ := iX
     have p5 : ∀ b2 ∈ ps, (p.g = true ∨ b2.g = true) → ∀ u ∈ p.a.U, u ∉ b2.a.U := by
      intro b2 dj bH u hu
      rcases l1 b2 dj with e | e
      ·rcases bH with bH | bH <;> simp [bH] at e
      ·simpa using e u hu
     have skip : b_.ht s p = s → ∃ c6, bB w0 F0 X F c6 (gf s (p :: ps)) au w ∧ ∀ u b, c6 u b → S u b ∨ ∃ i, So i b := by
      intro fE
      obtain ⟨c6, aV, bo⟩ := ih vs s S (fun i => So (i + 1)) h hl (fun i b2 e8 ao aG => xP (i + 1) b2 e8 (by simpa using ao) (by simpa using aG)) (fun i b h => J (i + 1) b h)
       (fun i ar b cZ => af (i + 1) (ar + 1) b (by omega)) lq
      refine ⟨c6, ?_, fun u b hu => (bo u b hu).imp id fun ⟨i, az⟩ => ⟨i + 1, az⟩⟩
      show bB _ _ _ _ _ (gf (b_.ht s p) ps) _ _
      rw [fE]; exact aV
     cases bH : p.g with
     | false => exact skip (by simp [b_.ht, bH])
     | true =>
       rcases xP 0 p v rfl rfl bH with bP | ⟨x, q, a0, d0, b1, bT, b4, Be, mY, r6, xQ, Ic, Ie, Ig⟩
       ·exact skip (by simp only [b_.ht, bH, bP, if_true])
       ·obtain ⟨kH, l3, Ih⟩ := nF xQ
        have fE : b_.ht s p = cS (jS x s) x (j.put q p.o (s x)) := by
         simp only [b_.ht, bH, if_true, b1]
         cases Ii : p.o <;> first | rfl | (rw [Ii] at xQ; simp [j.e9] at xQ)
        have step := h.ht (x := x) (q := q) (bj := p.o) bT b4 Ih (fun cT => ⟨l3, mY cT⟩) (fun k r cT => ⟨r6 (by rw [cT]; simp), Ig⟩) Ie Ic
         (fun b h => (J 0 b h).1) (fun b h => (J 0 b h).2.1) (fun u b h => (J 0 b h).2.2.2 u) (fun b h => (J 0 b h).2.2.1)
        rw [← fE] at step
        obtain ⟨c6, aV, bo⟩ := ih vs (b_.ht s p) _ (fun i => So (i + 1)) step hl (by
         intro i b2 e8 ao aG fR
         have hm : b2 ∈ ps := List.mem_of_getElem? ao
         rcases xP (i + 1) b2 e8 (by simpa using ao) (by simpa using aG) fR with bP | ⟨y, hE, ah, d1, b9, cj, d_, dv, e1, dY, iw, ek, jW⟩
         ·exact .inl bP
         ·have cZ : y ≠ x := fun e => p5 b2 hm (.inl bH) x (by rw [b1]; simp [j.U]) (by rw [b9, e]; simp [j.U])
          have kB : b_.ht s p y = s y := by
           rw [fE, ir _ _ cZ]
           exact xz _ (by rw [dv]; simp)
          exact .inr ⟨y, hE, ah, d1, b9, by rw [kB]; exact cj, by rw [kB]; exact d_, by rw [kB]; exact dv, e1, by rw [kB]; exact dY, iw, ek, jW⟩)
         (by
          intro i b az
          obtain ⟨jx, hs, hS, bX⟩ := J (i + 1) b az
          refine ⟨jx, hs, hS, fun u hu => ?_⟩
          simp only [fD] at hu
          split at hu
          ·rcases hu with hu | hu
           ·exact bX _ hu
           ·exact af 0 (i + 1) b (by omega) hu az
          ·exact bX _ hu)
         (fun i ar b cZ => af (i + 1) (ar + 1) b (by omega)) lq
        refine ⟨c6, aV, fun u b hu => ?_⟩
        rcases bo u b hu with hu | ⟨i, az⟩
        ·simp only [fD] at hu
         split at hu
         ·rename_i e; subst e
          exact hu.imp id fun h => ⟨0, h⟩
         ·exact .inl hu
        ·exact .inr ⟨i + 1, az⟩
def ix (ps : List b_) : Bool := ps.any fun p => !p.g && !p.a.U.isEmpty
theorem Bh (h : bB w0 F0 X F S s au w) {ps : List b_} {vs : List Value} {f : FuncId} {r : j} (hl : ps.length = vs.length)
  (hv : ∀ (i : Nat) (p : b_) (v : Value), ps[i]? = some p → vs[i]? = some v → p.a.plain = true ∧ aF w F s au p.a v (fun _ => False))
  (fi : ∀ p ∈ ps, p.ok s) (iX : gK ps = true) (bL : ∀ (Fc jZ : Nat → Prop) (dH : Nat → Nat → Prop), (∀ b, F b → Fc b) → (∀ b, jZ b → ∃ u, S u b) → bB w Fc jZ Fc dH (eI (ps.map (·.d))) (fS vs) w →
   lr C.P f vs.toArray w fun v aB => ∃ bA aH, bB w Fc jZ bA aH (eI (r :: ps.map (·.o))) (fS (v :: vs)) aB) (aO : r.res = true)
  (bh : ix ps = true → r.cY = true ∧ ∀ p ∈ ps, p.o.cY = true) :
  lr C.P f vs.toArray w fun v aB => ∃ bA aH, bB w0 F0 X bA aH (gf (dR s ps) ps) au aB ∧ jb w0 X bA aH (gf (dR s ps) ps) au aB r v ∧ ∀ b, F b → bA b ∧ aB.heap[b]? = w.heap[b]? := by
 obtain ⟨Sn, bW, aV, bo, b8, dn, eg, gA, ha, jv⟩ := H8 ps vs s S h hl (fun i p v ao aG => ⟨(hv i p v ao aG).1, (hv i p v ao aG).2, fun _ => fi p (List.mem_of_getElem? ao)⟩) iX
 have apart : ∀ (i ar : Nat) (p b2 : b_), ps[i]? = some p → ps[ar]? = some b2 → i ≠ ar → (p.g = true ∨ b2.g = true) → ∀ u ∈ p.a.U, u ∉ b2.a.U := by
  clear hv fi bL bh aV b8 dn jv hl
  induction ps with
  | nil => intro i ar p b2 ao; simp at ao
  | cons gw ps ih =>
    simp only [gK, Bool.and_eq_true, List.all_eq_true, Bool.or_eq_true, Bool.not_eq_true'] at iX
    obtain ⟨l1, lq⟩ := iX
    have p5 : ∀ b2 ∈ ps, (gw.g = true ∨ b2.g = true) → ∀ u ∈ gw.a.U, u ∉ b2.a.U := by
     intro b2 dj bH u hu
     rcases l1 b2 dj with e | e
     ·rcases bH with bH | bH <;> simp [bH] at e
     ·simpa using e u hu
    intro i ar p b2 ao dj cZ bH u hu
    cases i with
    | zero =>
      simp at ao; subst ao
      cases ar with
      | zero => exact (cZ rfl).elim
      | succ ar => exact p5 b2 (List.mem_of_getElem? (by simpa using dj)) bH u hu
    | succ i =>
      cases ar with
      | zero =>
        simp at dj; subst dj
        exact fun r7 => p5 p (List.mem_of_getElem? (by simpa using ao)) bH.symm u r7 hu
      | succ ar => exact ih lq i ar p b2 (by simpa using ao) (by simpa using dj) (by omega) bH u hu
 let Fc : Nat → Prop := fun b => F b ∨ (ix ps = true ∧ ∃ u, bW u b)
 let jZ : Nat → Prop := fun b => ∃ i, Sn i b
 have xR : ∀ b, F b → ¬ jZ b := fun b bg ⟨i, az⟩ => by obtain ⟨u, hu⟩ := eg i b az; exact h.e7 u b hu bg
 have r8 : ∀ u b, bW u b → ¬ jZ b := fun u b hu ⟨i, az⟩ => gA i u b az hu
 have uq : ∀ b, jZ b → (X b ∨ w0.heap.size ≤ b) ∧ b < w.heap.size := fun b ⟨i, az⟩ => by obtain ⟨u, hu⟩ := eg i b az; exact ⟨h.dd u b hu, h.dP u b hu⟩
 have pre : bB w Fc jZ Fc Sn (eI (ps.map (·.d))) (fS vs) w := by
  refine ⟨fun _ h => h, fun _ h => .inl h, ?_, fun i b az => (uq b ⟨i, az⟩).2, ?_, fun i ar b cZ => ha i ar b cZ, fun i b az => .inl ⟨i, az⟩, ?_, fun _ _ _ => rfl, Nat.le_refl _, rfl, rfl, rfl⟩
  ·rintro b (J | ⟨_, u, hu⟩)
   ·exact h.e0 b J
   ·exact aV.dP u b hu
  ·rintro i b az (J | ⟨_, u, hu⟩)
   ·exact xR b J ⟨i, az⟩
   ·exact gA i u b az hu
  ·intro t
   cases ao : ps[t]? with
   | none =>
     have : eI (ps.map (·.d)) t = .hole := by simp [eI, List.getD, ao]
     rw [this, aF]; trivial
   | some p =>
     have dL : t < vs.length := by rw [← hl]; exact (List.getElem?_eq_some_iff.1 ao).1
     have aG : vs[t]? = some vs[t] := List.getElem?_eq_getElem dL
     have aJ : eI (ps.map (·.d)) t = p.d := by simp [eI, List.getD, ao]
     have aT : fS vs t = vs[t] := by simp [fS, List.getD, aG]
     rw [aJ, aT]
     have hm : p ∈ ps := List.mem_of_getElem? ao
     have aw := fi p hm
     cases bH : p.g with
     | true =>
       obtain ⟨x, q, a0, b9, cj, d_, dv, e1, dY, iw, ek⟩ := b8 t p _ ao aG bH
       simp only [b_.ok, bH, if_true, b9] at aw
       exact (aF.cr (nF aw.2.1).2.1).2 ⟨iw, aq.mono (fun b J => .inl J) _ _ _ _ (fun _ h => h) ek⟩
     | false =>
       simp only [b_.ok, bH] at aw
       obtain ⟨f1, f2⟩ := hv t p _ ao aG
       have Bi : ∀ b2 ∈ ps, b2.g = true → ∀ u ∈ b2.a.U, u ∉ p.a.U := by
        intro b2 dj fR u hu
        obtain ⟨ar, cc⟩ := List.getElem?_of_mem dj
        refine apart ar t b2 p cc ao (fun e => ?_) (.inl fR) u hu
        subst e; rw [ao] at cc; simp only [Option.some.injEq] at cc; rw [cc, fR] at bH; cases bH
       have uo := jv _ _ _ Bi f2
       have jw : view (dR s ps) p.a = some p.d := xO _ _ (fun u hu aP => xL (xN aP) (fun b2 dj fR r7 => Bi b2 dj fR u r7 hu)) (by simpa using aw)
       refine aF.nothing (H2 f1 jw) ((H4 aV (Fc := Fc) (fun b J => .inl J) (SizeOf.sizeOf p.a)).1 p.a _ p.d (Nat.le_refl _) ?_ jw uo)
       intro u hu b J
       refine .inr ⟨?_, u, J⟩
       simp only [ix, List.any_eq_true]
       refine ⟨p, hm, ?_⟩
       cases kd : p.a.U with
       | nil => rw [kd] at hu; cases hu
       | cons _ _ => simp [bH]
 refine lr.mono (bL Fc jZ Sn (fun b J => .inl J) (fun b ⟨i, az⟩ => eg i b az) pre) ?_
 rintro v aB ⟨bA, aH, aj⟩
 have keep : ∀ b, b < w.heap.size → ¬ jZ b → aB.heap[b]? = w.heap[b]? := aj.old
 let l5 : Nat → Prop := fun b => if ix ps = true then F b else bA b
 have Bj : ∀ b, F b → bA b := fun b J => aj.gb b (.inl J)
 have p6 : ∀ b, F b → l5 b := fun b J => by
  simp only [l5]; split
  ·exact J
  ·exact Bj b J
 have oR : ∀ b, l5 b → bA b := fun b J => by
  simp only [l5] at J; split at J
  ·exact Bj b J
  ·exact J
 have Bk : ∀ b, l5 b → F b ∨ jZ b ∨ w.heap.size ≤ b := fun b J => by
  simp only [l5] at J; split at J
  ·exact .inl J
  ·rename_i nD
   rcases aj.gz b J with (J | ⟨aa, _⟩) | J | J
   ·exact .inl J
   ·exact (nD aa).elim
   ·exact .inr (.inl J)
   ·exact .inr (.inr J)
 have mid : bB w0 F0 X l5 bW (dR s ps) au aB := by
  refine ⟨fun b J => p6 b (aV.gb b J), ?_, fun b J => aj.e0 b (oR b J), fun t b J => Nat.lt_of_lt_of_le (aV.dP t b J) aj.size, ?_, aV.eT, aV.dd, ?_, ?_, Nat.le_trans aV.size aj.size, aj.os.trans aV.os, aj.tape.trans aV.tape, aj.output.trans aV.output⟩
  ·intro b J
   rcases Bk b J with J | J | J
   ·exact aV.gz b J
   ·rcases (uq b J).1 with h | h
    ·exact .inr (.inl h)
    ·exact .inr (.inr h)
   ·exact .inr (.inr (Nat.le_trans aV.size J))
  ·intro t b aP J
   rcases Bk b J with J | J | J
   ·exact aV.e7 t b aP J
   ·exact r8 t b aP J
   ·exact absurd (aV.dP t b aP) (by omega)
  ·intro t
   exact aF.frame (Sx := bW) (fun b J => keep b (h.e0 b J) (xR b J)) p6 (fun x b J => keep b (aV.dP x b J) (r8 x b J)) aV.c7 _ _ _ (fun b J => keep b (aV.dP t b J) (r8 t b J)) (aV.c7 t)
  ·intro b J iG
   refine (keep b (Nat.lt_of_lt_of_le J aV.size) fun ai => ?_).trans (aV.old b J iG)
   rcases (uq b ai).1 with h | h
   ·exact iG h
   ·omega
 have Bl : ∀ (d : j) (cs : List Value) (dd : Nat → Prop), (ix ps = true → d.cY = true) → aq aB bA d cs dd → aq aB l5 d cs dd := by
  intro d cs dd xr gZ
  by_cases hle : ix ps = true
  ·exact aq.cY d cs dd (xr hle) gZ
  ·exact aq.mono (fun b J => by simp only [l5]; rw [if_neg hle]; exact J) _ _ _ _ (fun _ h => h) gZ
 have bound : ∀ i b, aH i b → b < aB.heap.size ∧ ¬ l5 b ∧ (X b ∨ w0.heap.size ≤ b) ∧ ∀ u, ¬ bW u b := by
  intro i b J
  refine ⟨aj.dP i b J, fun bg => aj.e7 i b J (oR b bg), ?_, fun u hu => ?_⟩
  ·rcases aj.dd i b J with ai | ai
   ·exact (uq b ai).1
   ·exact .inr (Nat.le_trans aV.size ai)
  ·rcases aj.dd i b J with ai | ai
   ·exact r8 u b hu ai
   ·exact absurd (aV.dP u b hu) (by omega)
 obtain ⟨c6, b9, cj⟩ := Ib ps vs (dR s ps) bW (fun i => aH (i + 1)) mid hl (by
  intro i p e8 ao aG bH
  have hm : p ∈ ps := List.mem_of_getElem? ao
  have aw := fi p hm
  obtain ⟨x, q, a0, aJ, aT, bb, cn, c1, b6, bS, kf⟩ := b8 i p e8 ao aG bH
  simp only [b_.ok, bH, if_true, aJ] at aw
  rcases aw.2.2 with bP | bP
  ·exact .inl bP
  ·obtain ⟨gB, l2, xS⟩ := H5 aw.2.1 bP.1 bP.2
   refine .inr ⟨x, q, a0, p.d.cD, aJ, aT, ?_, cn, fun cT => l2 _ (c1 cT), b6, bP.1, ?_, gB.trans (j.nu _).symm, xS⟩
   ·cases q with
    | nil => simpa only [cJ] using bb
    | cons k q =>
      have aP := b6 (by simp)
      rw [wU (k :: q) _ _ (bW x) none _ ((aF.cr aP).1 (aV.c7 x)).2 aT (fun b J => keep b (aV.dP x b J) (r8 x b J))]
      exact bb
   ·have := aj.c7 (i + 1)
    have hR : eI (r :: ps.map (·.o)) (i + 1) = p.o := by simp [eI, List.getD, ao]
    have ld : fS (v :: vs) (i + 1) = e8 := by simp [fS, List.getD, aG]
    rw [hR, ld] at this
    exact Bl _ _ _ (fun hle => (bh hle).2 p hm) ((aF.cr (nF bP.1).2.1).1 this).2)
  (fun i b J => bound (i + 1) b J) (fun i ar b cZ => aj.eT (i + 1) (ar + 1) b (by omega)) iX
 refine ⟨l5, c6, b9, ?_, fun b J => ⟨p6 b J, keep b (h.e0 b J) (xR b J)⟩⟩
 have bp := aj.c7 0
 have hR : eI (r :: ps.map (·.o)) 0 = r := rfl
 have ld : fS (v :: vs) 0 = v := rfl
 rw [hR, ld] at bp
 cases aP : r.tree with
 | false =>
   cases r <;> first
    | (simp [j.tree] at aP; done)
    | (simp [j.res] at aO; done)
    | exact .inl ⟨rfl, by rw [aF]; trivial⟩
 | true =>
   obtain ⟨s1, s2⟩ := (aF.cr aP).1 bp
   have ff := Bl _ _ _ (fun hle => (bh hle).1) s2
   refine .inr ⟨aP, s1, aH 0, ff, fun b J => (bound 0 b J).1, fun b J => (bound 0 b J).2.1, fun u b J hu => ?_, fun b J => (bound 0 b J).2.2.1⟩
   rcases cj u b hu with hu | ⟨i, az⟩
   ·exact (bound 0 b J).2.2.2 u hu
   ·exact aj.eT 0 (i + 1) b (by omega) J az
theorem Ij (h : bB w0 F0 X F S s au w) {ps : List b_} {vs : List Value} {f : FuncId} {r : j} (hl : ps.length = vs.length)
  (hv : ∀ (i : Nat) (p : b_) (v : Value), ps[i]? = some p → vs[i]? = some v → p.a.plain = true ∧ aF w F s au p.a v (fun _ => False))
  (fi : ∀ p ∈ ps, p.ok s) (iX : gK ps = true) (bL : aX C f (ps.map (·.d)) r (ps.map (·.o))) (aO : r.res = true)
  (bh : ix ps = true → r.cY = true ∧ ∀ p ∈ ps, p.o.cY = true) :
  lr C.P f vs.toArray w fun v aB => ∃ bA aH, bB w0 F0 X bA aH (gf (dR s ps) ps) au aB ∧ jb w0 X bA aH (gf (dR s ps) ps) au aB r v ∧ ∀ b, F b → bA b ∧ aB.heap[b]? = w.heap[b]? :=
 Bh h hl hv fi iX (fun Fc jZ dH _ _ ao => bL w Fc jZ dH vs (by simp [hl]) ao) aO bh
end
structure cq where
 dst : Option Nat
 bd : eD
 guard : Option (Nat × Bool)
def r9 (ops : Array Oper) : Option (Nat × Bool) → Option (Option (Nat × Bool))
 | none => some none
 | some (ar, b) => match (ops[ar]?).bind (·.dst) with
   | some t => some (some (t, b))
   | none => none
structure Fr where
 n : Nat
 fx : List Nat
def j0 (n : Fr) : Option Nat → Bool
 | none => true
 | some t => decide (t < n.n) && !n.fx.contains t
def nH (op : Op) : eD := match da op with
 | some bd => bd
 | none => .bad
def mE (n : Fr) (ops : Array Oper) (o : Oper) : Option cq :=
 if j0 n o.dst = true then match r9 ops o.guard with
  | some g => some ⟨o.dst, nH o.op, g⟩
  | none => none
 else none
def mF (n : Fr) (ops : Array Oper) : List Oper → Option (List cq)
 | [] => some []
 | o :: os => match mE n ops o, mF n ops os with
   | some r, some rs => some (r :: rs)
   | _, _ => none
def ur (C : bN) (s : ag) (f : ax) (args : List ax) (K : j → ag → Prop) : Prop :=
 ∃ (g : FuncId) (caps : List j) (ps : List b_) (r : j), aD s f = .fn g caps ∧ j.dz caps = true ∧ ps.map (·.a) = args.map (aD s) ++ caps ∧ (∀ p ∈ ps, p.ok s) ∧ gK ps = true ∧
   aX C g (ps.map (·.d)) r (ps.map (·.o)) ∧ r.res = true ∧ (ix ps = true → r.cY = true ∧ ∀ p ∈ ps, p.o.cY = true) ∧ K r (gf (dR s ps) ps)
mutual
def j.eo (s : ag) : j → Bool
 | .h x q => q.isEmpty && (s x).own
 | .J x _ => !(s x).plain
 | .ao _ _ => false
 | .hole => true
 | .fn _ cap => j.lu s cap
 | d => d.plain
def j.lu (s : ag) : List j → Bool
 | [] => true
 | d :: ds => d.eo s && j.lu s ds
end
def kl (s : ag) : List (Nat × j) → ag
 | [] => s
 | p :: L => kl (cS s p.1 p.2) L
def ji (s : ag) : List (Nat × j) → Bool
 | [] => true
 | p :: L => p.2.eo s && ji s L
def hx (s : ag) (us : List Nat) : List (Nat × j) := us.map fun u => (u, s u)
def lv (C : bN) (s : ag) (bd : eD) (K : j → ag → Prop) : Prop :=
 match bd with
 | .call f args => ∃ (g : FuncId) (caps : List j) (ps : List b_) (r : j), aD s f = .fn g caps ∧ j.dz caps = true ∧ ps.map (·.a) = args.map (aD s) ++ caps ∧ (∀ p ∈ ps, p.ok s) ∧ gK ps = true ∧
   aX C g (ps.map (·.d)) r (ps.map (·.o)) ∧ r.res = true ∧ (ix ps = true → r.cY = true ∧ ∀ p ∈ ps, p.o.cY = true) ∧ K r (gf (dR s ps) ps)
 | .shr bd => ∃ av s1, br C s bd = some (av, s1) ∧ av.tree = true ∧ (∀ vs, av ≠ .tuple vs) ∧ K av.share s1
 | .ki f args u x => s u = .h x [] ∧ (s x).own = true ∧ ur C s f args fun av s1 => s1 u = .hole ∧ (s1 x).own = true ∧ K av (cS s1 u (.h x []))
 | .jg f args us => ji s (hx s us) = true ∧ ur C s f args fun av s1 => ji s1 (hx s us) = true ∧ K av (kl s1 (hx s us))
 | bd => ∃ av s1, br C s bd = some (av, s1) ∧ K av s1
theorem uu {C : bN} {s : ag} {bd : eD} {K cK : j → ag → Prop} (h : lv C s bd K) (aw : ∀ av s, K av s → cK av s) : lv C s bd cK := by
 cases bd with
 | call f args =>
   obtain ⟨g, caps, ps, r, aa, eJ, ab, aE, aZ, bG, b7, b5, dG⟩ := h
   exact ⟨g, caps, ps, r, aa, eJ, ab, aE, aZ, bG, b7, b5, aw _ _ dG⟩
 | shr bd =>
   obtain ⟨av, s1, aa, ab, aE, aZ⟩ := h
   exact ⟨av, s1, aa, ab, aE, aw _ _ aZ⟩
 | ki f args u x =>
   obtain ⟨b9, cj, g, caps, ps, r, aa, eJ, ab, aE, aZ, bG, b7, b5, dG, gJ, fO⟩ := h
   exact ⟨b9, cj, g, caps, ps, r, aa, eJ, ab, aE, aZ, bG, b7, b5, dG, gJ, aw _ _ fO⟩
 | jg f args us =>
   obtain ⟨cj, g, caps, ps, r, aa, eJ, ab, aE, aZ, bG, b7, b5, dG, gJ⟩ := h
   exact ⟨cj, g, caps, ps, r, aa, eJ, ab, aE, aZ, bG, b7, b5, dG, aw _ _ gJ⟩
 | _ =>
   obtain ⟨av, s1, aa, ab⟩ := h
   exact ⟨av, s1, aa, aw _ _ ab⟩
def jA (C : bN) (s : ag) (o : cq) (K : ag → Prop) : Prop :=
 match o.guard with
 | none => lv C s o.bd fun av s1 => K (fin s1 o.dst av)
 | some (t, b) => match s t with
   | .bool ew => if ew = b then lv C s o.bd (fun av s1 => K (fin s1 o.dst av)) else K (fin s o.dst (.tuple []))
   | .tuple [] => K (fin s o.dst (.tuple []))
   | _ => False
def jj (C : bN) (s : ag) : List cq → (ag → Prop) → Prop
 | [], K => K s
 | o :: os, K => jA C s o fun s1 => jj C s1 os K
def h8 (C : bN) (ros : List cq) (s : ag) : List Nat → (ag → Prop) → Prop
 | [], K => K s
 | i :: l, K => match ros[i]? with
   | none => h8 C ros s l K
   | some o => jA C s o fun s1 => h8 C ros s1 l K
theorem Ik (C : bN) (K : ag → Prop) : ∀ (rs pre : List cq) (s : ag), jj C s rs K → h8 C (pre ++ rs) s ((List.range rs.length).map (· + pre.length)) K := by
 intro rs
 induction rs with
 | nil => intro pre s h; exact h
 | cons r rs ih =>
   intro pre s h
   rw [List.length_cons, List.range_succ_eq_map, List.map_cons, List.map_map]
   simp only [h8, Nat.zero_add]
   rw [List.getElem?_append_right (Nat.le_refl _)]
   simp only [Nat.sub_self, List.getElem?_cons_zero]
   have key : ∀ s1, jj C s1 rs K → h8 C (pre ++ r :: rs) s1 ((List.range rs.length).map ((fun x => x + pre.length) ∘ Nat.succ)) K := by
    intro s1 aa
    have := ih (pre ++ [r]) s1 aa
    simp only [List.append_assoc, List.singleton_append, List.length_append, List.length_singleton] at this
    have e : ((fun x => x + pre.length) ∘ Nat.succ) = fun x => x + (pre.length + 1) := by funext x; simp; omega
    rw [e]; exact this
   simp only [jj] at h
   unfold jA at h ⊢
   split
   ·rename_i bH; rw [bH] at h; exact uu h fun av s1 => key _
   ·rename_i t b bH
    rw [bH] at h
    simp only at h
    split
    ·rename_i ew U
     rw [U] at h
     simp only at h
     split
     ·rename_i J; rw [if_pos J] at h; exact uu h fun av s1 => key _
     ·rename_i J; rw [if_neg J] at h; exact key _ h
    ·rename_i U; rw [U] at h; exact key _ h
    ·rename_i aa ab
     split at h
     ·exact aa _ (by assumption)
     ·exact ab (by assumption)
     ·exact h
structure Rel (w0 : World) (F0 X : Nat → Prop) (n : Fr) (ρ : Nat → Value) (s : ag) (a : Act) (w : World) : Prop where
 defers : a.defers = []
 size : a.tmps.size = n.n
 fixed : ∀ i ∈ n.fx, a.tmps.getD i undef = ρ i
 rel : ∃ F S, bB w0 F0 X F S s (fun t => a.tmps.getD t undef) w
section
variable {C : bN} {w0 w : World} {F0 X : Nat → Prop} {n : Fr} {ρ : Nat → Value} {s s1 : ag} {a : Act} {av : j} {Q : Exit → Act → World → Prop}
theorem xT {dst : Option Nat} (v : Value) (U : a.tmps.size = n.n) (af : j0 n dst = true) :
  (fun t => (a.put dst v).tmps.getD t undef) = ot (fun t => a.tmps.getD t undef) dst v ∧ (a.put dst v).tmps.size = n.n ∧ (a.put dst v).defers = a.defers := by
 cases dst with
 | none => exact ⟨rfl, U, rfl⟩
 | some d =>
   simp only [j0, Bool.and_eq_true, decide_eq_true_eq] at af
   refine ⟨?_, by simp [Act.put, U], rfl⟩
   funext t
   simp only [Act.put, ot, cS, Array.getD_eq_getD_getElem?]
   by_cases h : t = d
   ·subst h
    rw [if_pos rfl, Array.getElem?_setIfInBounds_self_of_lt (by omega)]; rfl
   ·rw [if_neg h, Array.getElem?_setIfInBounds_ne (fun e => h e.symm)]
theorem Rel.put {F S} (af : a.defers = []) (U : a.tmps.size = n.n) (bL : ∀ i ∈ n.fx, a.tmps.getD i undef = ρ i) {aB : World} (aO : bB w0 F0 X F S s (fun t => a.tmps.getD t undef) aB) {v : Value} (aG : jb w0 X F S s (fun t => a.tmps.getD t undef) aB av v)
  {dst : Option Nat} (fi : j0 n dst = true) : Rel w0 F0 X n ρ (fin s dst av) (a.put dst v) aB := by
 obtain ⟨aJ, aT, bb⟩ := xT (n := n) (dst := dst) v U fi
 obtain ⟨aH, bq⟩ := aO.fin aG dst
 refine ⟨bb.trans af, aT, fun i az => ?_, F, aH, by rw [aJ]; exact bq⟩
 rw [congrFun aJ i]
 cases dst with
 | none => exact bL i az
 | some d =>
   simp only [j0, Bool.and_eq_true, Bool.not_eq_true', List.contains_eq_mem, decide_eq_false_iff_not] at fi
   have cZ : i ≠ d := fun e => fi.2 (by rw [← e]; exact az)
   simp only [ot]
   rw [ir _ _ cZ]
   exact bL i az
theorem Rel.skip (h : Rel w0 F0 X n ρ s a w) {dst : Option Nat} (fi : j0 n dst = true) : Rel w0 F0 X n ρ (fin s dst (.tuple [])) (a.put dst undef) w := by
 obtain ⟨af, U, bL, F, S, aO⟩ := h
 refine Rel.put (av := .tuple []) af U bL aO (.inl ⟨rfl, (aF.cr (d := .tuple []) rfl).2 ⟨?_, ?_⟩⟩) fi
 ·exact ⟨#[], rfl, rfl, fun k d x aw => by simp at aw⟩
 ·rw [aq, aU]; rfl
theorem Bm {F : Nat → Prop} {au : Nat → Value} {w : World} : ∀ {ds es : List j} {vs us : List Value}, dC w F s au ds vs → dC w F s au es us → dC w F s au (ds ++ es) (vs ++ us) := by
 intro ds
 induction ds with
 | nil => intro es vs us aa ab; rw [dC] at aa; subst aa; exact ab
 | cons d ds ih =>
   intro es vs us aa ab
   rw [dC] at aa
   obtain ⟨v, iF, rfl, aV, bo⟩ := aa
   rw [List.cons_append, List.cons_append, dC]
   exact ⟨v, _, rfl, aV, ih bo ab⟩
theorem Bn {F : Nat → Prop} {au : Nat → Value} {w : World} : ∀ {ds : List j} {vs : List Value}, dC w F s au ds vs → ds.length = vs.length ∧ ∀ (i : Nat) (d : j) (v : Value), ds[i]? = some d → vs[i]? = some v → aF w F s au d v (fun _ => False) := by
 intro ds
 induction ds with
 | nil => intro vs h; rw [dC] at h; subst h; exact ⟨rfl, fun i d v h => by simp at h⟩
 | cons d ds ih =>
   intro vs h
   rw [dC] at h
   obtain ⟨v, iF, rfl, aV, bo⟩ := h
   obtain ⟨b9, cj⟩ := ih bo
   refine ⟨by simp [b9], fun i bj e8 af aG => ?_⟩
   cases i with
   | zero => simp at af aG; subst af aG; exact aV
   | succ i => exact cj i bj e8 (by simpa using af) (by simpa using aG)
theorem nI {op : Op} {bd : eD} (h : nH op = bd) : bd = .bad ∨ da op = some bd := by
 unfold nH at h
 split at h
 ·subst h; right; assumption
 ·exact .inl h.symm
theorem Il {op : Op} {bd : eD} : da op ≠ some (.shr bd) := by
 intro h
 unfold da at h
 split at h <;> (try split at h) <;> (try split at h) <;> (try split at h) <;> (try simp [Option.map_eq_some_iff] at h)
theorem Im {op : Op} {f : ax} {args : List ax} {u x : Nat} : da op ≠ some (.ki f args u x) := by
 intro h
 unfold da at h
 split at h <;> (try split at h) <;> (try split at h) <;> (try split at h) <;> (try simp [Option.map_eq_some_iff] at h)
theorem Io {op : Op} {f : ax} {args : List ax} {us : List Nat} : da op ≠ some (.jg f args us) := by
 intro h
 unfold da at h
 split at h <;> (try split at h) <;> (try split at h) <;> (try split at h) <;> (try simp [Option.map_eq_some_iff] at h)
theorem Ip {op : Op} {T : TypeId} {x : ax} : da op ≠ some (.h4 T x) := by
 intro h
 unfold da at h
 split at h <;> (try split at h) <;> (try split at h) <;> (try split at h) <;> (try simp [Option.map_eq_some_iff] at h)
theorem Iq {op : Op} {T bn : TypeId} {x y : ax} : da op ≠ some (.hH T bn x y) := by
 intro h
 unfold da at h
 split at h <;> (try split at h) <;> (try split at h) <;> (try split at h) <;> (try simp [Option.map_eq_some_iff] at h)
theorem Ir {op : Op} {T bn : TypeId} {x y : ax} (h : da op = some (.app T bn x y)) : ∃ a b, op = .call ⟨.builtin .append, #[a, b], #[T, bn]⟩ ∧ c9 a = some x ∧ c9 b = some y := by
 cases op with
 | call c =>
   obtain ⟨callee, args, argTypes⟩ := c
   simp only [da] at h
   split at h
   ·split at h <;> simp at h
   ·split at h <;> simp at h
   ·split at h <;> simp at h
   ·(split at h <;> try split at h) <;> simp at h
   ·(split at h <;> try split at h) <;> simp at h
   ·split at h
    ·rename_i a b xU uj kj oL
     split at h
     ·rename_i cz iH ai bC
      simp only [Option.some.injEq, eD.app.injEq] at h
      obtain ⟨rfl, rfl, rfl, rfl⟩ := h
      refine ⟨a, b, ?_, ai, bC⟩
      have aJ : args = #[a, b] := by apply Array.ext'; exact kj
      have aT : argTypes = #[xU, uj] := by apply Array.ext'; exact oL
      subst aJ aT
      rfl
     ·cases h
    ·cases h
   ·cases h
 | makeFunc fn first cs =>
   cases fn <;> simp only [da] at h <;> first | (cases h; done) | (split at h <;> simp at h)
 | slice T x cy az g8 =>
   cases g8 <;> simp only [da] at h <;> first | (cases h; done) | (split at h <;> simp at h)
 | _ => simp only [da] at h <;> first | (cases h; done) | (simp at h; done) | (split at h <;> simp at h)
theorem bB.alias {F : Nat → Prop} {S : Nat → Nat → Prop} {au : Nat → Value} {u x : Nat} (h : bB w0 F0 X F S s au w) (hu : s u = .hole) (ai : (s x).own = true) (aG : ch (au u) = ch (au x)) (aa : Value.fz (au u) = true) :
  bB w0 F0 X F (fD S u (fun _ => False)) (cS s u (.h x [])) au w := by
 have dD : cS au u (au u) = au := by funext y; simp only [cS]; split <;> simp_all
 have := h.rF (t := u) (d := .h x []) (v := au u) rfl (by
  rw [aF]
  intro d af ao
  simp only [j.sub, Option.some.injEq] at af
  subst af
  exact ⟨ch (au x), none, rfl, aG, ((m8 ai).2.2.2.2.2 _).2 aa⟩)
 rwa [dD] at this
theorem jb.less {F : Nat → Prop} {S aH : Nat → Nat → Prop} {au : Nat → Value} {s1 : ag} {v : Value} (bE : ∀ u b, aH u b → S u b) (aO : av.res = true) (h : jb w0 X F S s au w av v) : jb w0 X F aH s1 au w av v := by
 rcases h with ⟨aa, ab⟩ | ⟨aa, ab, Sn, aE, aZ, bG, b7, b5⟩
 ·refine .inl ⟨aa, ?_⟩
  cases av <;> first
   | (simp [j.res] at aO; done)
   | (rw [aF]; trivial)
   | (rw [aF] at ab ⊢; exact ab)
 ·exact .inr ⟨aa, ab, Sn, aE, aZ, bG, fun u b J hu => b7 u b J (bE u b hu), b5⟩
theorem xV (bm : C.Ok) (h : Rel w0 F0 X n ρ s a w) {o : Oper} {f : ax} {args : List ax} (cb : da o.op = some (.call f args)) (af : j0 n o.dst = true) {K : j → ag → Prop} {L : ag → Prop} {next : Act → World → Prop}
  (hw : ur C s f args K) (oS : ∀ F S bA aH w aB av s1 v, bB w0 F0 X F S s (fun t => a.tmps.getD t undef) w → K av s1 → av.res = true → bB w0 F0 X bA aH s1 (fun t => a.tmps.getD t undef) aB → jb w0 X bA aH s1 (fun t => a.tmps.getD t undef) aB av v → (∀ b, F b → bA b ∧ aB.heap[b]? = w.heap[b]?) →
   ∃ s2 c6, L (fin s2 o.dst av) ∧ bB w0 F0 X bA c6 s2 (fun t => a.tmps.getD t undef) aB ∧ jb w0 X bA c6 s2 (fun t => a.tmps.getD t undef) aB av v)
  (bh : ∀ ak cf aB, L ak → Rel w0 F0 X n ρ ak cf aB → next cf aB) : o.wp C.P a w next Q := by
 have m9 := h
 obtain ⟨iL, dI, hf, F, S, aO⟩ := h
 obtain ⟨g, caps, ps, r, aa, eJ, ab, aE, aZ, bG, b7, b5, dG⟩ := hw
 obtain ⟨dst, op, ty, pos, after, guard⟩ := o
 simp only at cb af oS
 cases op with
 | call c =>
   obtain ⟨callee, l6, argTypes⟩ := c
   simp only [da] at cb
   split at cb
   ·split at cb
    ·rename_i r_ _ _ Is xs bL l4
     simp only [Option.some.injEq, eD.call.injEq] at cb
     obtain ⟨rfl, rfl⟩ := cb
     obtain ⟨f1, f2⟩ := eU aO (fun _ => rfl) bL
     rw [aa, aF] at f2
     obtain ⟨arr, f3, f4⟩ := f2
     have oT : execOp a.eval { dst, op := .call { callee := .value r_, args := l6, argTypes }, type := ty, pos, after, guard } = callFunc g ((l6.toList.map a.eval ++ arr.toList).toArray) := by
      have : a.eval r_ = .func (.func g) #[] arr := f3
      simp only [execOp, resolve, this, Deferred.ofValue, pure_bind, invoke]
      congr 1
      apply Array.ext'; simp
     unfold Oper.wp
     rw [oT]
     have sa : dC w F s (fun t => a.tmps.getD t undef) (xs.map (aD s) ++ caps) (l6.toList.map a.eval ++ arr.toList) := Bm (ue aO (fun _ => rfl) _ _ (oJ l4)) f4
     rw [← ab] at sa
     obtain ⟨gB, l2⟩ := Bn sa
     have gj : ∀ d ∈ xs.map (aD s) ++ caps, d.plain = true := by
      intro d af
      rcases List.mem_append.1 af with af | af
      ·obtain ⟨x, ai, rfl⟩ := List.mem_map.1 af
       exact z8 s x fun av e => by
        subst e
        have hm := oJ l4
        have : some (ax.c av) ∈ xs.map some := List.mem_map.2 ⟨_, ai, rfl⟩
        rw [← hm] at this
        obtain ⟨o, _, bP⟩ := List.mem_map.1 this
        cases o with
        | const v => simp only [c9, Option.map_eq_some_iff] at bP; obtain ⟨c, aj, e⟩ := bP; cases e; exact w4 aj
        | tmp n => simp [c9] at bP
        | func g => simp [c9] at bP
        | global g => simp [c9] at bP
      ·obtain ⟨k, aw⟩ := List.getElem?_of_mem af
       exact tC eJ aw
     have xW := Ij (C := C) aO (ps := ps) (vs := l6.toList.map a.eval ++ arr.toList) (f := g) (r := r) (by simpa using gB)
      (fun i p v ao aG => ⟨gj p.a (by rw [← ab]; exact List.mem_map.2 ⟨p, List.mem_of_getElem? ao, rfl⟩), l2 i p.a v (by simp [ao]) aG⟩) aE aZ bG b7 b5
     rcases xW with ⟨eh, eZ⟩ | ⟨v, aB, eh, bA, aH, eZ, jt, jT⟩
     ·rw [eh, Oper.upon_enter]
      refine Calls.mono eZ ?_
      rintro e aB ⟨v, rfl, bA, aH, b9, cj, d_⟩
      obtain ⟨s2, c6, en, fl, hb⟩ := oS _ _ _ _ _ _ _ _ _ aO dG b7 b9 cj d_
      exact bh _ _ _ en (Rel.put iL dI hf fl hb af)
     ·rw [eh, Oper.upon_value]
      obtain ⟨s2, c6, en, fl, hb⟩ := oS _ _ _ _ _ _ _ _ _ aO dG b7 eZ jt jT
      exact bh _ _ _ en (Rel.put iL dI hf fl hb af)
    ·cases cb
   ·split at cb
    ·simp only [Option.map_eq_some_iff] at cb; obtain ⟨_, _, cb⟩ := cb; cases cb
    ·cases cb
   ·split at cb
    ·simp only [Option.map_eq_some_iff] at cb; obtain ⟨_, _, cb⟩ := cb; cases cb
    ·cases cb
   iterate 3
    ·split at cb
     ·split at cb <;> cases cb
     ·cases cb
   ·cases cb
 | makeFunc fn first cs =>
   cases fn <;> simp only [da] at cb <;> first | (cases cb; done) | (split at cb <;> simp at cb)
 | slice T x cy az g8 =>
   cases g8 <;> simp only [da] at cb <;> first | (cases cb; done) | (split at cb <;> simp at cb)
 | _ => simp only [da] at cb <;> first | (cases cb; done) | (simp at cb; done) | (split at cb <;> simp at cb)
theorem It (bm : C.Ok) (h : Rel w0 F0 X n ρ s a w) {o : Oper} {bd : eD} (cb : da o.op = some bd) (af : j0 n o.dst = true) {K : ag → Prop} {next : Act → World → Prop}
  (hw : lv C s bd fun av s1 => K (fin s1 o.dst av)) (bh : ∀ ak cf aB, K ak → Rel w0 F0 X n ρ ak cf aB → next cf aB) : o.wp C.P a w next Q := by
 have m9 := h
 obtain ⟨iL, dI, hf, F, S, aO⟩ := h
 have plain : ∀ av s1, br C s bd = some (av, s1) → K (fin s1 o.dst av) → o.wp C.P a w next Q := by
  intro av s1 he aw
  obtain ⟨r, aB, v, bA, aH, aa, ab, aE, aZ⟩ := AX (a := a) bm aO (fun _ => rfl) cb he
  unfold Oper.wp
  rw [aa]
  rcases ab with rfl | ⟨rfl, rfl⟩
  ·exact bh _ _ _ aw (Rel.put iL dI hf aE aZ af)
  ·exact bh _ _ _ aw (Rel.put iL dI hf aE aZ af)
 cases bd with
 | shr bd => exact (Il cb).elim
 | hH T bn x y => exact (Iq cb).elim
 | call f args => exact xV bm ⟨iL, dI, hf, F, S, aO⟩ cb af (K := fun av s1 => K (fin s1 o.dst av)) hw (fun _ _ _ aH _ _ _ s1 _ _ ab _ aE aZ _ => ⟨s1, aH, ab, aE, aZ⟩) bh
 | ki f args u x => exact (Im cb).elim
 | jg f args L => exact (Io cb).elim
 | h4 T x => exact (Ip cb).elim
 | _ =>
   obtain ⟨av, s1, he, aw⟩ := hw
   exact plain av s1 he aw
theorem jb.share {F : Nat → Prop} {S : Nat → Nat → Prop} {au : Nat → Value} {v : Value} (h : bB w0 F0 X F S s au w) (aG : jb w0 X F S s au w av v) (aP : av.tree = true) (bh : ∀ vs, av ≠ .tuple vs) :
  ∃ bA, bB w0 F0 X bA S s au w ∧ jb w0 X bA S s au w av.share v := by
 obtain ⟨Sn, jk, bR, gg, c3, fm, e_⟩ : ∃ Sn : Nat → Prop, dt av v ∧ aq w F av (ch v) Sn ∧ (∀ b, Sn b → b < w.heap.size) ∧ (∀ b, Sn b → ¬ F b) ∧ (∀ u b, Sn b → ¬ S u b) ∧ (∀ b, Sn b → X b ∨ w0.heap.size ≤ b) := by
  rcases aG with ⟨aa, ab⟩ | ⟨_, ab, Sn, aE, aZ, bG, b7, b5⟩
  ·rw [aF.cr aP] at ab
   exact ⟨fun _ => False, ab.1, ab.2, fun _ h => h.elim, fun _ h => h.elim, fun _ _ h => h.elim, fun _ h => h.elim⟩
  ·exact ⟨Sn, ab, aE, aZ, bG, b7, b5⟩
 refine ⟨fun b => F b ∨ Sn b, ?_, .inl ⟨xI av, ?_⟩⟩
 ·exact {
   gb := fun b J => .inl (h.gb b J)
   gz := fun b J => by
    rcases J with J | J
    ·exact h.gz b J
    ·exact .inr (e_ b J)
   e0 := fun b J => J.elim (h.e0 b) (gg b)
   dP := h.dP
   e7 := fun t b J bL => bL.elim (h.e7 t b J) (fun U => fm t b U J)
   eT := h.eT
   dd := h.dd
   c7 := fun t => aF.frame (fun _ _ => rfl) (fun b J => .inl J) (fun _ _ _ => rfl) h.c7 _ _ _ (fun _ _ => rfl) (h.c7 t)
   old := h.old
   size := h.size
   os := h.os
   tape := h.tape
   output := h.output }
 ·have Iu : av.share.tree = true := by cases av <;> first | exact aP | rfl
  rw [aF.cr Iu]
  exact ⟨xK bh jk, aq.shared (fun b J => .inl J) av _ Sn (fun b J => .inr J) bR⟩
theorem Iv {op : Op} {T : TypeId} {x : ax} (h : da op = some (.di T x)) : ∃ a, op = .box T a ∧ c9 a = some x := by
 cases op with
 | box xU a =>
   simp only [da, Option.map_eq_some_iff, eD.di.injEq] at h
   obtain ⟨y, bC, rfl, rfl⟩ := h
   exact ⟨a, rfl, bC⟩
 | _ =>
   exfalso
   unfold da at h
   split at h <;> (try split at h) <;> (try split at h) <;> (try split at h) <;> (try simp [Option.map_eq_some_iff] at h) <;> contradiction
theorem Iw {aB : World} {F bA : Nat → Prop} {s s1 : ag} {au : Nat → Value} (bg : ∀ b, F b → bA b ∧ aB.heap[b]? = w.heap[b]?) : ∀ (n : Nat),
  (∀ (d : j) (v : Value) (S : Nat → Prop), SizeOf.sizeOf d ≤ n → d.eo s = true → d.eo s1 = true → aF w F s au d v S → aF aB bA s1 au d v (fun _ => False)) ∧
  (∀ (ds : List j) (vs : List Value), SizeOf.sizeOf ds ≤ n → j.lu s ds = true → j.lu s1 ds = true → dC w F s au ds vs → dC aB bA s1 au ds vs) := by
 intro n
 induction n with
 | zero =>
   refine ⟨fun d v S bw => ?_, fun ds vs bw => ?_⟩
   ·cases d <;> simp at bw <;> omega
   ·cases ds <;> simp at bw <;> omega
 | succ n ih =>
   refine ⟨fun d v S bw b9 cj h => ?_, fun ds vs bw b9 cj h => ?_⟩
   ·cases d with
    | hole => rw [aF]; trivial
    | h x q =>
      simp only [j.eo, Bool.and_eq_true, List.isEmpty_iff] at b9 cj
      obtain ⟨rfl, b9⟩ := b9
      rw [aF] at h ⊢
      obtain ⟨cv, a, fI, ga, gV⟩ := h (s x) (by simp only [j.sub]) (m8 b9).1
      simp only [cJ, Option.some.injEq, Prod.mk.injEq, true_and] at fI
      intro d af _
      simp only [j.sub, Option.some.injEq] at af
      subst af
      exact ⟨ch (au x), none, by simp only [cJ], by rw [ga, ← fI.1], ((m8 cj.2).2.2.2.2.2 _).2 (((m8 b9).2.2.2.2.2 _).1 gV)⟩
    | ao x q => simp [j.eo] at b9
    | J x k =>
      simp only [j.eo, Bool.not_eq_true'] at b9
      rw [aF] at h ⊢
      obtain ⟨b, cur, e, fr, aa, ab, aE, aZ⟩ := h b9
      exact fun _ => ⟨b, cur, e, fr, aa, (bg b ab).1, (bg b ab).2.trans aE, aZ⟩
    | fn f cap =>
      simp only [j.eo] at b9 cj
      rw [aF] at h ⊢
      obtain ⟨arr, rfl, aj⟩ := h
      exact ⟨arr, rfl, ih.2 _ _ (by simp at bw; omega) b9 cj aj⟩
    | _ =>
      simp only [j.eo] at b9
      have bq := (aF.cr rfl).1 h
      exact (aF.cr rfl).2 ⟨bq.1, aq.mono (fun b J => (bg b J).1) _ _ _ _ (fun _ h => h) (aq.frame (fun b J => (bg b J).2) _ _ _ (fun _ h => h.elim) (aq.plain _ _ _ _ b9 bq.2))⟩
   ·cases ds with
    | nil => rw [dC] at h ⊢; exact h
    | cons d ds =>
      simp only [j.lu, Bool.and_eq_true] at b9 cj
      rw [dC] at h ⊢
      obtain ⟨v, iF, rfl, aa, ab⟩ := h
      simp at bw
      exact ⟨v, iF, rfl, ih.1 _ _ _ (by omega) b9.1 cj.1 aa, ih.2 _ _ (by omega) b9.2 cj.2 ab⟩
theorem Ix {s : ag} {d : j} (h : d.eo s = true) : d.plain = true := by
 cases d <;> first | rfl | (simpa [j.eo] using h)
theorem bB.kl {F : Nat → Prop} {au : Nat → Value} : ∀ (L : List (Nat × j)) (s : ag) (S : Nat → Nat → Prop), bB w0 F0 X F S s au w → (∀ p ∈ L, p.2.plain = true ∧ aF w F s au p.2 (au p.1) (fun _ => False)) →
  ∃ aH, bB w0 F0 X F aH (cM.kl s L) au w ∧ ∀ u b, aH u b → S u b := by
 intro L
 induction L with
 | nil => intro s S h _; exact ⟨S, h, fun _ _ h => h⟩
 | cons p L ih =>
   intro s S h oS
   obtain ⟨aa, ab⟩ := oS p (by simp)
   have dD : cS au p.1 (au p.1) = au := by funext u; simp only [cS]; split <;> simp_all
   have aE := h.rF (t := p.1) aa ab
   rw [dD] at aE
   have fJ : ∀ x, x ≠ p.1 → (cS s p.1 p.2 x).tree = true → cS s p.1 p.2 x = s x ∧ au x = au x := fun x ai _ => ⟨ir _ _ ai, rfl⟩
   obtain ⟨aH, aV, bo⟩ := ih _ _ aE (fun q cT => ⟨(oS q (by simp [cT])).1, (aF.void (t := p.1) fJ (by rw [k_]; exact aa) _).1 _ _ _ (Nat.le_refl _) (oS q (by simp [cT])).2⟩)
   refine ⟨aH, aV, fun u b J => ?_⟩
   have := bo u b J
   simp only [fD] at this
   split at this
   ·exact this.elim
   ·exact this
theorem xX {s : ag} : ∀ {L : List (Nat × j)}, ji s L = true → ∀ p ∈ L, p.2.eo s = true
 | q :: L, aa, p, ao => by
   simp only [ji, Bool.and_eq_true] at aa
   rcases List.mem_cons.1 ao with rfl | ao
   ·exact aa.1
   ·exact xX aa.2 p ao
theorem Iy {s : ag} {us : List Nat} {p : Nat × j} (h : p ∈ hx s us) : p.1 ∈ us ∧ s p.1 = p.2 := by
 obtain ⟨u, hu, rfl⟩ := List.mem_map.1 h
 exact ⟨hu, rfl⟩
theorem Iz (bm : C.Ok) (h : Rel w0 F0 X n ρ s a w) {o : Oper} {bd : eD} (cb : nH o.op = bd.base) (af : j0 n o.dst = true) {K : ag → Prop} {next : Act → World → Prop}
  (hw : lv C s bd fun av s1 => K (fin s1 o.dst av)) (bh : ∀ ak cf aB, K ak → Rel w0 F0 X n ρ ak cf aB → next cf aB) : o.wp C.P a w next Q := by
 cases bd with
 | shr bd =>
   obtain ⟨av, s1, he, aP, kk, aw⟩ := hw
   rcases nI cb with cb | cb
   ·change bd = .bad at cb
    subst cb; cases he
   obtain ⟨iL, dI, hf, F, S, aO⟩ := h
   obtain ⟨r, aB, v, bA, aH, aa, ab, aE, aZ⟩ := AX (a := a) bm aO (fun _ => rfl) cb he
   obtain ⟨oR, b8, dn⟩ := jb.share aE aZ aP kk
   unfold Oper.wp
   rw [aa]
   rcases ab with rfl | ⟨rfl, rfl⟩
   ·exact bh _ _ _ aw (Rel.put iL dI hf b8 dn af)
   ·exact bh _ _ _ aw (Rel.put iL dI hf b8 dn af)
 | bad => obtain ⟨av, s1, he, _⟩ := hw; cases he
 | ki f args u x =>
   obtain ⟨aJ, aT, hw⟩ := hw
   rcases nI cb with J | J
   ·cases J
   ·refine xV bm h J af hw ?_ bh
    rintro F S bA aH w aB av s1 v jk ⟨bR, gg, c3⟩ fm e_ g1 _
    have tK := jk.c7 u
    rw [aJ, aF] at tK
    obtain ⟨cv, a0, fI, ga, gV⟩ := tK (s x) (by simp only [j.sub]) (m8 aT).1
    simp only [cJ, Option.some.injEq, Prod.mk.injEq, true_and] at fI
    have IA : ∀ y b, fD aH u (fun _ => False) y b → aH y b := by
     intro y b J
     simp only [fD] at J
     split at J
     ·exact J.elim
     ·exact J
    exact ⟨_, _, c3, e_.alias bR gg (by rw [ga, ← fI.1]) (((m8 aT).2.2.2.2.2 _).1 gV), g1.less IA fm⟩
 | jg f args L =>
   obtain ⟨aT, hw⟩ := hw
   rcases nI cb with J | J
   ·cases J
   ·refine xV bm h J af hw ?_ bh
    rintro F S bA aH w aB av s1 v jk ⟨bR, c3⟩ fm e_ g1 gL
    obtain ⟨c6, aV, bo⟩ := e_.kl (hx s L) s1 aH (fun p ao => by
     have eh := (Iy ao).2
     have eZ := xX aT p ao
     have jt := xX bR p ao
     refine ⟨Ix eZ, (Iw gL _).1 _ _ (S p.1) (Nat.le_refl _) eZ jt ?_⟩
     have := jk.c7 p.1
     rw [eh] at this
     exact this)
    exact ⟨_, c6, c3, aV, g1.less bo fm⟩
 | h4 T x =>
   obtain ⟨av, s1, he, aw⟩ := hw
   rcases nI cb with J | J
   ·cases J
   ·obtain ⟨cz, sb, ai⟩ := Iv J
    obtain ⟨iL, dI, hf, F, S, aO⟩ := h
    obtain ⟨dst, op, ty, pos, after, guard⟩ := o
    simp only at sb af aw
    subst sb
    obtain ⟨r, aB, v, bA, aH, aa, ab, aE, aZ⟩ : Next C w0 F0 X (fun t => a.tmps.getD t undef) w (execOp a.eval ⟨dst, .box T cz, ty, pos, after, guard⟩) av s1 := (GD (T := T) aO (eU aO (fun _ => rfl) ai).2 he).next
    unfold Oper.wp
    rw [aa]
    rcases ab with rfl | ⟨rfl, rfl⟩
    ·exact bh _ _ _ aw (Rel.put iL dI hf aE aZ af)
    ·exact bh _ _ _ aw (Rel.put iL dI hf aE aZ af)
 | hH T bn x y =>
   obtain ⟨av, s1, he, aw⟩ := hw
   rcases nI cb with J | J
   ·cases J
   ·obtain ⟨cz, iH, sb, ai, bC⟩ := Ir J
    obtain ⟨iL, dI, hf, F, S, aO⟩ := h
    simp only [br, Option.map_eq_some_iff, Prod.mk.injEq] at he
    obtain ⟨d, fA, rfl, rfl⟩ := he
    obtain ⟨v, aB, bA, aH, aa, ab, aE⟩ := Hl (ty := o.type) bm aO (eU aO (fun _ => rfl) ai).2 (eU aO (fun _ => rfl) bC).2 fA
    have oT : execOp a.eval o = (do pure (.value (← Builtin.append_ #[T, bn] o.type #[a.eval cz, a.eval iH]))) := by
     obtain ⟨dst, op, ty, pos, after, guard⟩ := o
     simp only at sb
     subst sb
     simp [execOp, resolve, invoke, builtin]
    unfold Oper.wp
    rw [oT]
    simp only [Sem.run_bind, aa, Result.andThen]
    exact bh _ _ _ aw (Rel.put iL dI hf ab aE af)
 | _ =>
   rcases nI cb with J | J
   ·cases J
   ·exact It bm h J af hw bh
end
end Go.cM
