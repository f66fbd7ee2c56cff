/- Part of a proof that a law returns true for every input. No condition. -/
import Derived.Test.YtbemmmimelklkaaGreatFwD
import Derived.Laws.Tables
namespace Go.c5
section
variable {C : cw} {w0 w : World} {F0 X F : Nat → Prop} {S : Nat → Nat → Prop} {s s1 : ax} {aF : Nat → Value} {av : I}
theorem z6 (z : List Value) : ∀ n, (List.range (n * z.length)).map (fun i => z[i % z.length]!) = (List.replicate n z).flatten
 | 0 => by simp
 | n + 1 => by
   rw [Nat.add_mul, Nat.one_mul, List.range_add, List.map_append, z6 z n, List.replicate_succ', List.flatten_append]
   congr 1
   simp only [List.map_map, List.flatten_cons, List.flatten_nil, List.append_nil]
   apply List.ext_getElem
   ·simp
   ·intro i af ai
    have ao : i < z.length := ai
    simp [Nat.mod_eq_of_lt ao, ao]
theorem bm.replicate {d : I} {cs : List Value} (h : ∀ a7, aB w F d cs a7) : ∀ n a7, bm w F (List.replicate n d) (List.replicate n cs).flatten a7
 | 0, a7 => by simp only [List.replicate_zero, List.flatten_nil]; rw [bm]
 | n + 1, a7 => by
   rw [List.replicate_succ, List.replicate_succ, List.flatten_cons, bm]
   exact ⟨cs, _, fun _ => False, fun _ => False, rfl, h _, bm.replicate h n _, fun _ h => h.elim, fun _ h => h.elim, fun _ h => h.elim⟩
def eX (C : cw) (T : TypeId) (l c : I) : Option I :=
 match (C.T T).k, l, c with
 | .slice e, .int .i64 n, .int .i64 m => if n = m ∧ 0 ≤ n ∧ (C.T e).ok = true ∧ (C.T e).zero.wd = (C.T e).sz ∧ (flat (C.T e).zero).isSome = true ∧ (C.T e).sz ≠ 0 ∧ (C.T e).bytes * n ≤ 140737488355328 ∧ n ≤ 9223372036854775807 then
   some (.ar (C.T e).sz (List.replicate n.toNat (C.T e).zero)) else none
 | _, _, _ => none
theorem QE (bI : C.Ok) (h : bZ w0 F0 X F S s aF w) {T : TypeId} {l c : I} {ID IE : Value} (hl : aY w F s aF l ID (fun _ => False)) (ay : aY w F s aF c IE (fun _ => False)) (he : eX C T l c = some av) :
  Good C w0 F0 X aF w (Instr.makeSlice T ID IE) av s := by
 unfold eX at he
 split at he
 ·rename_i e n m aD
  have := pT hl; subst this
  have := pT ay; subst this
  obtain ⟨Et, d, Eu, a1, bh, a8, c6, da, cv, cr⟩ := bI.info (ha aD (by simp))
  rw [aD] at cr
  have := k4 cr; subst this
  split at he
  ·rename_i r3
   obtain ⟨rfl, bl, ob, o_, pX, eV, IF, Ex⟩ := r3
   simp only [Option.some.injEq] at he; subst he
   obtain ⟨i, Ev, z, f1, f2, f3, f4, f5, f6, f7⟩ := bI.info ob
   obtain ⟨fp, lv⟩ := Option.isSome_iff_exists.1 pX
   have pY := f5 fp lv
   have ic : ∀ a7, aB w F (C.T e).zero fp a7 := fun a7 => (aB.flat _).1 _ fp a7 (Nat.le_refl _) lv
   have od : fp.length = (C.T e).sz := by rw [aB.length _ _ _ (ic (fun _ => False)), o_]
   obtain ⟨n, rfl⟩ := Int.eq_ofNat_of_zero_le bl
   simp only [Int.toNat_natCast]
   have ue : IntKind.i64.wrap (n : Int) = n := by
    rw [IntKind.wrap_i64]; omega
   have uc : ∀ k (w : World), (askRoom k).run C.P w = .ok () w := by
    intro k w
    unfold askRoom
    split <;> rfl
   have pS : ((Array.range (n * (C.T e).sz)).map (fp.toArray[· % fp.toArray.size]!)).toList = (List.replicate n fp).flatten := by
    have := z6 fp n
    rw [od] at this
    simpa [od] using this
   have fi : ¬ (281474976710656 < (i.bytes : Int) * n) := by
    rw [f3]; omega
   have z7 : ¬ ((n : Int) < 0) := by omega
   have run : (Instr.makeSlice T (.int .i64 n) (.int .i64 n)).run C.P w = .ok (.slice (some ⟨w.heap.size, 0, none⟩) n n)
     (w.alloc (.cells (if n * (C.T e).sz = 0 then (Array.range (n * (C.T e).sz)).map (fun _ => default) else (Array.range (n * (C.T e).sz)).map (fp.toArray[· % fp.toArray.size]!)) e)) := by
    by_cases bc : n * (C.T e).sz = 0
    ·simp [Instr.makeSlice, run_underlying cv, asInt, asIntOf, rZ f1, ue, fi, z7, uc, j0 f1, f2, bc, newRow]
    ·simp only [bc, if_false]
     simp [Instr.makeSlice, run_underlying cv, asInt, asIntOf, rZ f1, ue, fi, z7, uc, j0 f1, f2, bc, newRow, tU f1 f4, pY]
   have kY : (if n * (C.T e).sz = 0 then (Array.range (n * (C.T e).sz)).map (fun _ => (default : Value)) else (Array.range (n * (C.T e).sz)).map (fp.toArray[· % fp.toArray.size]!)).toList = (List.replicate n fp).flatten := by
    split
    ·rename_i bc
     have : n = 0 := by
      rcases Nat.mul_eq_zero.1 bc with h | h
      ·exact h
      ·exact (eV h).elim
     subst this
     simp
    ·exact pS
   generalize sa : (if n * (C.T e).sz = 0 then (Array.range (n * (C.T e).sz)).map (fun _ => (default : Value)) else (Array.range (n * (C.T e).sz)).map (fp.toArray[· % fp.toArray.size]!)) = cur at run kY
   have lr : (List.replicate n fp).flatten.length = n * (C.T e).sz := by simp [od]
   have hH : cur.size = n * (C.T e).sz := by
    have : cur.size = cur.toList.length := by simp
    rw [this, kY, lr]
   have j3 := h.wK (aP := w.alloc (.cells cur e)) (sz := (C.T e).sz) (cap := n) (xs := List.replicate n (C.T e).zero) (cur := cur) (e := e) (fr := (0, 0)) (Sn := fun _ => False) rfl rfl rfl rfl
    (fun o _ ⟨_, ai⟩ => absurd ai (Nat.not_lt_zero _)) (by simp) (by unfold maxLen; omega) hH (by intro d ak; rw [List.eq_of_mem_replicate ak]; exact o_)
    (by rw [kY, List.length_replicate, List.take_of_length_le (by rw [lr]; exact Nat.le_refl _)]; exact bm.replicate ic n _) (fun _ h => h.elim) (fun _ h => h.elim) (fun _ _ h => h.elim) (fun _ h => h.elim)
   rw [List.length_replicate] at j3
   exact ⟨_, _, F, S, run, j3.1, j3.2⟩
  ·cases he
 ·cases he
def nC (C : cw) (T bV : TypeId) (x y : I) : Option I :=
 match (C.T T).k, (C.T bV).k, x, y with
 | .slice e, .int _, .bu, .int .i64 n => if 0 ≤ n ∧ (C.T e).ok = true ∧ (C.T e).zero.wd = (C.T e).sz ∧ (flat (C.T e).zero).isSome = true ∧ (C.T e).sz ≠ 0 ∧ (C.T e).bytes * n ≤ 140737488355328 ∧ n ≤ 9223372036854775807 then
   some (.ar (C.T e).sz (List.replicate n.toNat (C.T e).zero)) else none
 | _, _, _, _ => none
theorem QF {P : Program} {T bV ty e : TypeId} {k : IntKind} {i : TypeInfo} {z : Value} (bs : P.underlying T = some (.slice e)) (hu : P.underlying bV = some (.int k)) (ao : P.info? e = some i) (bY : i.zero = some z)
  (n : Nat) (bc : n ≠ 0) (ah : i.size ≠ 0) (bl : n ≤ 9223372036854775807) (ad : n * i.bytes ≤ 140737488355328) :
  (Builtin.append_ #[T, bV] ty #[.slice none 0 0, .int .i64 n]).run P w = .ok (.slice (some ⟨w.heap.size, 0, none⟩) n (grownCap w n 0 e))
   (w.drew.alloc (.cells (Builtin.zeroCells z.cells n ++ Builtin.zeroCells z.cells (grownCap w n 0 e - n)) e)) := by
 have ue : IntKind.i64.wrap (n : Int) = n := by rw [IntKind.wrap_i64]; omega
 have z7 : ¬ ((n : Int) < 0) := by omega
 have hmul : (n : Int) * (i.bytes : Int) = ((n * i.bytes : Nat) : Int) := by simp
 have fi : ¬ (281474976710656 < (n : Int) * (i.bytes : Int)) := by rw [hmul]; omega
 have j1 : ¬ (281474976710656 < Builtin.nextslicecap n 0 * i.bytes) := by
  have : Builtin.nextslicecap n 0 = n := by unfold Builtin.nextslicecap; rw [if_pos (by omega)]
  rw [this]; omega
 have uc : ∀ k (w : World), (askRoom k).run P w = .ok () w := by
  intro k w
  unfold askRoom
  split <;> rfl
 have Ep : ¬ (9223372036854775807 < (n : Int)) := by omega
 have EA : n * i.size ≠ 0 := Nat.mul_ne_zero bc ah
 simp [Builtin.append_, run_underlying bs, run_underlying hu, j0 ao, rZ ao, asInt, asIntOf, ue, z7, fi, j1, bc, Question.forced, uc, Ep, tU ao bY, newRow, grownCap, Builtin.firstCells]
 intro k2; exact (EA k2).elim
theorem QG (bI : C.Ok) (h : bZ w0 F0 X F S s aF w) {T bV ty : TypeId} {x y : I} {j2 jD : Value} (aq : aY w F s aF x j2 (fun _ => False)) (bD : aY w F s aF y jD (fun _ => False)) (he : nC C T bV x y = some av) :
  Good C w0 F0 X aF w (Builtin.append_ #[T, bV] ty #[j2, jD]) av s := by
 unfold nC at he
 split at he
 ·rename_i e axt n aD IG
  have := pU aq; subst this
  have := pT bD; subst this
  obtain ⟨Et, d, Eu, a1, bh, a8, c6, da, cv, cr⟩ := bI.info (ha aD (by simp))
  rw [aD] at cr
  have := k4 cr; subst this
  obtain ⟨axu, axv, axw, z8, z_, Aa, wS, axx, EB, IH⟩ := bI.info (ha IG (by simp))
  rw [IG] at IH
  have := zM IH; subst this
  split at he
  ·rename_i r3
   obtain ⟨bl, ob, o_, pX, eV, IF, Ex⟩ := r3
   simp only [Option.some.injEq] at he; subst he
   obtain ⟨i, Ev, z, f1, f2, f3, f4, f5, f6, f7⟩ := bI.info ob
   obtain ⟨fp, lv⟩ := Option.isSome_iff_exists.1 pX
   have pY := f5 fp lv
   have ic : ∀ a7, aB w F (C.T e).zero fp a7 := fun a7 => (aB.flat _).1 _ fp a7 (Nat.le_refl _) lv
   have od : fp.length = (C.T e).sz := by rw [aB.length _ _ _ (ic (fun _ => False)), o_]
   obtain ⟨n, rfl⟩ := Int.eq_ofNat_of_zero_le bl
   simp only [Int.toNat_natCast]
   by_cases bc : n = 0
   ·subst bc
    have run : (Builtin.append_ #[T, bV] ty #[.slice none 0 0, .int .i64 ((0 : Nat) : Int)]).run C.P w = .ok (.slice none 0 0) w := by
     have ue : IntKind.i64.wrap 0 = 0 := by decide
     simp [Builtin.append_, run_underlying cv, run_underlying EB, j0 f1, rZ f1, asInt, asIntOf, ue]
    exact ⟨_, w, F, S, run, h, .inr ⟨rfl, rfl, fun _ => False, by simp only [c1, h_]; rw [aB]; exact .inl ⟨rfl, _, rfl⟩, fun _ h => h.elim, fun _ h => h.elim, fun _ _ h => h.elim, fun _ h => h.elim⟩⟩
   ·have run := QF (w := w) (ty := ty) cv EB f1 f4 n bc (by rw [f2]; exact eV) (by omega) (by
     rw [f3]
     have : ((C.T e).bytes : Int) * (n : Int) = (((C.T e).bytes * n : Nat) : Int) := by simp
     rw [this] at IF
     rw [Nat.mul_comm]; omega)
    rw [pY] at run
    have wN := grownCap_ge w n 0 e
    have r8 := grownCap_le_maxLen w n 0 e (by unfold maxLen; omega)
    have II : ∀ m, (Builtin.zeroCells fp.toArray m).toList = (List.replicate m fp).flatten := by
     intro m
     have := z6 fp m
     unfold Builtin.zeroCells
     simpa [od] using this
    have lr : ∀ m, (List.replicate m fp).flatten.length = m * (C.T e).sz := by intro m; simp [od]
    generalize sa : Builtin.zeroCells fp.toArray n ++ Builtin.zeroCells fp.toArray (grownCap w n 0 e - n) = cur at run
    have kY : cur.toList = (List.replicate n fp).flatten ++ (List.replicate (grownCap w n 0 e - n) fp).flatten := by rw [← sa, Array.toList_append, II, II]
    have hH : cur.size = grownCap w n 0 e * (C.T e).sz := by
     have : cur.size = cur.toList.length := by simp
     rw [this, kY, List.length_append, lr, lr, ← Nat.add_mul]
     congr 1; omega
    have j3 := h.wK (aP := w.drew.alloc (.cells cur e)) (sz := (C.T e).sz) (cap := grownCap w n 0 e) (xs := List.replicate n (C.T e).zero) (cur := cur) (e := e) (fr := (0, 0)) (Sn := fun _ => False) rfl rfl rfl rfl
     (fun o _ ⟨_, ai⟩ => absurd ai (Nat.not_lt_zero _)) (by simpa using wN) r8 hH (by intro d ak; rw [List.eq_of_mem_replicate ak]; exact o_)
     (by rw [kY, List.length_replicate, List.take_left' (lr n)]; exact bm.replicate ic n _) (fun _ h => h.elim) (fun _ h => h.elim) (fun _ _ h => h.elim) (fun _ h => h.elim)
    rw [List.length_replicate] at j3
    exact ⟨_, _, F, S, run, j3.1, j3.2⟩
  ·cases he
 ·cases he
def ie (s : ax) (f : FuncId) (cs : List aH) : Option I := some (.fn f (cs.map (aV s)))
theorem Ab {a : Act} (h : bZ w0 F0 X F S s aF w) (eW : ∀ t, aF t = a.tmps.getD t undef) : ∀ (os : List Operand) (xs : List aH), os.map ef = xs.map some → e2 w F s aF (xs.map (aV s)) (os.map a.eval)
 | [], [], _ => by simp only [List.map_nil]; rw [e2]
 | [], x :: xs, h => by simp at h
 | o :: os, [], h => by simp at h
 | o :: os, x :: xs, bM => by
   simp only [List.map_cons, List.cons.injEq] at bM ⊢
   rw [e2]
   exact ⟨_, _, rfl, (gu h eW bM.1).2, Ab h eW os xs bM.2⟩
theorem IJ : ∀ (vs : List Value) (k off : Nat) (A : Array Value) (l m r : List Value), A.toList = l ++ (m ++ r) → l.length = off + k → m.length = vs.length →
  ((vs.zipIdx k).foldl (fun cs (x : Value × Nat) => cs.setIfInBounds (off + x.2) x.1) A).toList = l ++ (vs ++ r)
 | [], k, off, A, l, m, r, iL, hl, hm => by
   have : m = [] := by simpa using hm
   subst this
   simpa using iL
 | v :: vs, k, off, A, l, m, r, iL, hl, hm => by
   obtain ⟨x, m, rfl⟩ : ∃ x hY, m = x :: hY := by
    cases m with
    | nil => simp at hm
    | cons x m => exact ⟨x, m, rfl⟩
   rw [List.zipIdx_cons, List.foldl_cons]
   have := IJ vs (k + 1) off (A.setIfInBounds (off + k) v) (l ++ [v]) m r (by
    rw [Array.toList_setIfInBounds, iL, ← hl, List.set_append_right _ _ (Nat.le_refl _)]
    simp) (by simp; omega) (by simpa using hm)
   simpa using this
def nD (os : List (Option Nat)) (a : I) : I := os.foldl (fun a o => kD o a) a
def e5 (place : Nat → Option (Nat × Nat)) : ax → List I → List (Option Nat) → List (Nat × I) → Option (List I × ax)
 | s, zs, _, [] => some (zs, s)
 | s, zs, os, (k, a) :: r => match c2 s (nD os a), place k, zs[k]? with
   | some (d, s1), some (off, n), some z => match d with
     | .tuple _ => none
     | d => if d.wd = n ∧ z.wd = n ∧ I.eD (zs.take k) = off then e5 place s1 (zs.set k d) (os ++ [(nD os a).owner]) r else none
   | _, _, _ => none
def nE (w : World) (F : Nat → Prop) (s : ax) (aF : Nat → Value) : List (Nat × I) → List (Nat × Value) → Prop
 | [], [] => True
 | (k, a) :: r, (dm, v) :: j5 => k = dm ∧ a.plain = true ∧ aY w F s aF a v (fun _ => False) ∧ nE w F s aF r j5
 | _, _ => False
theorem QH (x : Nat) : ∀ d : I, d.plain = true → (cm x d).plain = true
 | .h y q, _ => by simp only [cm]; split <;> (try split) <;> rfl
 | .aA y q, _ => by simp only [cm]; split <;> rfl
 | .ad y q, _ => rfl
 | .fn f c, _ => by simp only [cm]; rfl
 | .hole, h => h
 | .bool _, h => h
 | .fo, h => h
 | .int _ _, h => h
 | .str _, h => h
 | .dI, h => h
 | .bu, h => h
 | .slice _, h => h
 | .ar _ _, h => h
 | .ref _, h => h
 | .bd _, h => h
 | .agg _, h => h
 | .tuple _, h => h
theorem QI (o : Option Nat) (d : I) (h : d.plain = true) : (kD o d).plain = true := by
 cases o with
 | none => exact h
 | some x => exact QH x d h
theorem nE.cm {w : World} {F : Nat → Prop} {s s1 : ax} {aF : Nat → Value} {o : Option Nat} (aA : ∀ (bL : I) (gH : Value) (a7 : Nat → Prop), aY w F s aF bL gH a7 → aY w F s1 aF (kD o bL) gH a7) :
  ∀ (r : List (Nat × I)) (j5 : List (Nat × Value)), nE w F s aF r j5 → nE w F s1 aF (r.map fun p => (p.1, kD o p.2)) j5
 | [], [], _ => trivial
 | (k, a) :: r, (dm, v) :: j5, h => by
   obtain ⟨af, ai, aN, bk⟩ := h
   exact ⟨af, QI _ _ ai, aA _ _ _ aN, nE.cm aA r j5 bk⟩
 | [], _ :: _, h => h.elim
 | _ :: _, [], h => h.elim
theorem EC {place : Nat → Option (Nat × Nat)} : ∀ (ps : List (Nat × I)) (vs : List (Nat × Value)) (os : List (Option Nat)) (s : ax) (S : Nat → Nat → Prop) (zs : List I) (A : Array Value) (hF : Nat → Prop),
  bZ w0 F0 X F S s aF w → nE w F s aF (ps.map fun p => (p.1, nD os p.2)) vs → bm w F zs A.toList hF → (∀ b, hF b → b < w.heap.size) → (∀ b, hF b → ¬ F b) → (∀ u b, hF b → ¬ S u b) → (∀ b, hF b → X b ∨ w0.heap.size ≤ b) →
  ∀ ds s1, e5 place s zs os ps = some (ds, s1) → ∃ lS cy gS, Instr.fill place A vs = some lS ∧ bZ w0 F0 X F cy s1 aF w ∧ bm w F ds lS.toList gS ∧ (∀ b, gS b → b < w.heap.size) ∧ (∀ b, gS b → ¬ F b) ∧ (∀ u b, gS b → ¬ cy u b) ∧
    (∀ b, gS b → X b ∨ w0.heap.size ≤ b) ∧ ds.length = zs.length ∧ I.eD ds = I.eD zs ∧ (∀ n, (∀ d ∈ zs, d.wd = n) → ∀ d ∈ ds, d.wd = n)
 | [], [], os, s, S, zs, A, hF, h, _, af, ai, aN, bk, cc, ds, s1, he => by
   simp only [e5, Option.some.injEq, Prod.mk.injEq] at he
   obtain ⟨rfl, rfl⟩ := he
   exact ⟨A, S, hF, rfl, h, af, ai, aN, bk, cc, rfl, rfl, fun _ h => h⟩
 | (k, a) :: ps, (dm, v) :: vs, os, s, S, zs, A, hF, h, aA, af, ai, aN, bk, cc, ds, s1, he => by
   obtain ⟨rfl, kI, n5, wT⟩ := aA
   simp only [e5] at he
   split at he
   ·rename_i d uf off n z bs gz bY
    have key : ∀ d : I, (∀ aC, d ≠ .tuple aC) → c2 s (nD os a) = some (d, uf) → (if d.wd = n ∧ z.wd = n ∧ I.eD (zs.take k) = off then e5 place uf (zs.set k d) (os ++ [(nD os a).owner]) ps else none) = some (ds, s1) →
      ∃ lS cy gS, Instr.fill place A ((k, v) :: vs) = some lS ∧ bZ w0 F0 X F cy s1 aF w ∧ bm w F ds lS.toList gS ∧ (∀ b, gS b → b < w.heap.size) ∧ (∀ b, gS b → ¬ F b) ∧ (∀ u b, gS b → ¬ cy u b) ∧
      (∀ b, gS b → X b ∨ w0.heap.size ≤ b) ∧ ds.length = zs.length ∧ I.eD ds = I.eD zs ∧ (∀ n, (∀ d ∈ zs, d.wd = n) → ∀ d ∈ ds, d.wd = n) := by
     intro d pR bs he
     split at he
     ·rename_i ay
      obtain ⟨mV, me, IK⟩ := ay
      obtain ⟨cy, hG, bo, bR, Sn, cJ, eE, fK, ib, iJ, lu, wQ, zZ⟩ := qK h kI n5 bs
      obtain ⟨cH, gp, cI, Sx, kf, iL, h8, gT, hs, h9, hk, ma⟩ := bm.pick zs _ _ k z af bY
      have pS := zU bR pR
      have p0 := aB.length _ _ _ cJ
      have IL := aB.length _ _ _ hk
      have qO := ma w d (c1 v) Sn (fun _ _ => rfl) (fun _ _ => rfl) cJ (fun b QJ QK => by obtain ⟨u, hu⟩ := wQ b QJ; exact bk u b (gT b QK) hu)
      have IM := IJ (c1 v) 0 off A cH gp cI iL (by rw [h8, IK]; rfl) (by rw [IL, p0, mV, me])
      generalize wU : ((c1 v).zipIdx 0).foldl (fun cs (x : Value × Nat) => cs.setIfInBounds (off + x.2) x.1) A = ED at IM
      obtain ⟨lS, et, gS, fM, gN, hI, kF, mg, cC, n8, eK, EE, p1⟩ := EC (place := place) ps vs (os ++ [(nD os a).owner]) uf cy (zs.set k d) ED (fun b => Sx b ∨ Sn b) hG (by have := nE.cm zZ _ _ wT; simpa [nD, List.foldl_append, Function.comp_def] using this) (by rw [IM]; exact qO)
       (by rintro b (ad | ad); exact ai b (gT b ad); exact eE b ad) (by rintro b (ad | ad); exact aN b (gT b ad); exact fK b ad)
       (by rintro u b (ad | ad); exact fun hu => bk u b (gT b ad) (lu u b hu); exact ib u b ad) (by rintro b (ad | ad); exact cc b (gT b ad); exact iJ b ad) ds s1 he
      refine ⟨lS, et, gS, ?_, gN, hI, kF, mg, cC, n8, by rw [eK]; simp, by rw [EE]; exact DV _ _ _ _ bY (by rw [mV, me]), ?_⟩
      ·have EF : off + n ≤ A.size := by
        have : A.size = A.toList.length := by simp
        rw [this, iL]; simp [h8, IK, IL, me]
       simp only [Instr.fill, gz, pS, List.size_toArray, p0, mV]
       have nv : ¬ (n ≠ n ∨ A.size < off + n) := by omega
       have QL : (c1 v).toArray.zipIdx.foldl (fun cs (x : Value × Nat) => cs.setIfInBounds (off + x.2) x.1) A = ED := by
        rw [← wU, ← Array.foldl_toList]; simp
       simp only [ne_eq, not_true_eq_false, decide_false, Bool.false_or, decide_eq_true_eq, gt_iff_lt]
       rw [if_neg (by simp; omega)]
       rw [show (c1 v).toArray.zipIdx.foldl (fun cs x => match x with | (c, j) => cs.setIfInBounds (off + j) c) A = ED from QL]
       exact fM
      ·intro EG wV
       refine p1 EG (DW wV ?_)
       rw [mV, ← me]; exact wV z (List.mem_of_getElem? bY)
     ·cases he
    split at he
    ·cases he
    ·rename_i pR
     exact key _ (fun aC e => pR aC e) bs he
   ·cases he
 | [], _ :: _, _, _, _, _, _, _, _, aA, _, _, _, _, _, _, _, _ => aA.elim
 | _ :: _, [], _, _, _, _, _, _, _, aA, _, _, _, _, _, _, _, _ => aA.elim
def fX (C : cw) (s : ax) (T : TypeId) (ps : List (Nat × I)) : Option (I × ax) :=
 match (C.T T).k, (C.T T).zero with
 | .struct aC, .agg zs => if (flat (.agg zs)).isSome = true ∧ (∀ f ∈ aC, (C.T f.1).ok = true) then
   (match e5 (fun k => (aC[k]?).map fun f => (f.2, (C.T f.1).sz)) s zs [] ps with
   | some (ds, s1) => some (.agg ds, s1)
   | none => none) else none
 | _, _ => none
def dJ (C : cw) (s : ax) (T : TypeId) (n : Nat) (ps : List (Nat × I)) : Option (I × ax) :=
 match (C.T T).k with
 | .slice e => if (C.T e).ok = true ∧ (C.T e).zero.wd = (C.T e).sz ∧ (flat (C.T e).zero).isSome = true ∧ (C.T e).sz ≠ 0 ∧ n * (C.T e).sz ≤ 16777216 then
   (match e5 (fun k => some (k * (C.T e).sz, (C.T e).sz)) s (List.replicate n (C.T e).zero) [] ps with
   | some (ds, s1) => some (.ar (C.T e).sz ds, s1)
   | none => none) else none
 | _ => none
theorem QM (bI : C.Ok) : ∀ (gs : List Field), (∀ g ∈ gs, (C.T g.type).ok = true) →
  gs.mapM (fun f => (C.P.info? f.type).map fun i => (f.offset, i.size)) = some (gs.map fun g => (g.offset, (C.T g.type).sz)) := by
 intro gs
 induction gs with
 | nil => intro _; simp
 | cons g gs ih =>
   intro cg
   obtain ⟨i, d, z, f1, f2, f3, f4, f5, f6, f7⟩ := bI.info (cg g (by simp))
   have := ih (fun g hJ => cg g (by simp [hJ]))
   simp [List.mapM_cons, f1, f2, this]
theorem QN (bI : C.Ok) (h : bZ w0 F0 X F S s aF w) {T : TypeId} {ps : List (Nat × I)} {vs : List (Nat × Value)} (aA : nE w F s aF ps vs) (he : fX C s T ps = some (av, s1)) :
  Good C w0 F0 X aF w (Instr.build T vs.toArray) av s1 := by
 unfold fX at he
 split at he
 ·rename_i aC zs aD bY
  split at he
  ·rename_i ay
   obtain ⟨pX, QO⟩ := ay
   split at he
   ·rename_i ds s2 lr
    simp only [Option.some.injEq, Prod.mk.injEq] at he
    obtain ⟨rfl, rfl⟩ := he
    obtain ⟨i, d, z, a1, bh, a8, c6, da, cv, cr⟩ := bI.info (ha aD (by simp))
    rw [aD] at cr
    obtain ⟨gs, rfl, IP⟩ := Ec cr
    obtain ⟨fp, lv⟩ := Option.isSome_iff_exists.1 pX
    have pY := da fp (by rw [bY]; exact lv)
    have ic : bm w F zs fp.toArray.toList (fun _ => False) := by
     have := (aB.flat (w := w) (F := F) _).1 (.agg zs) fp (fun _ => False) (Nat.le_refl _) lv
     rw [aB] at this
     simpa using this
    have eY : nE w F s aF (ps.map fun p => (p.1, nD [] p.2)) vs := by simpa [nD] using aA
    obtain ⟨lS, cy, gS, fM, gN, hI, kF, mg, cC, n8, eK, EE, p1⟩ := EC ps vs [] s S zs fp.toArray (fun _ => False) h eY ic (fun _ h => h.elim) (fun _ h => h.elim) (fun _ _ h => h.elim) (fun _ h => h.elim) ds s2 lr
    have gz := QM bI gs.toList (fun g cg => QO (g.type, g.offset) (by rw [← IP]; exact List.mem_map_of_mem cg))
    have QP : (fun (k : Nat) => (aC[k]?).map fun (f : TypeId × Nat) => (f.2, (C.T f.1).sz)) = fun (k : Nat) => ((gs.toList.map fun g => (g.offset, (C.T g.type).sz)).toArray)[k]? := by
     funext k
     rw [← IP]
     simp only [List.getElem?_map, List.getElem?_toArray, Option.map_map]
     rfl
    rw [QP] at fM
    refine ⟨.agg lS, w, F, cy, run_build w T vs.toArray lS ?_, gN, .inr ⟨rfl, ⟨_, rfl⟩, gS, by simp only [c1, h_]; rw [aB]; exact hI, kF, mg, cC, n8⟩⟩
    unfold Program.built
    simp only [a1, cv, c6, gz, pY]
    exact fM
   ·cases he
  ·cases he
 ·cases he
theorem QQ (bI : C.Ok) (h : bZ w0 F0 X F S s aF w) {T : TypeId} {n : Nat} {ps : List (Nat × I)} {vs : List (Nat × Value)} (aA : nE w F s aF ps vs) (he : dJ C s T n ps = some (av, s1)) :
  Good C w0 F0 X aF w (Instr.buildSlice T n vs.toArray) av s1 := by
 unfold dJ at he
 split at he
 ·rename_i e aD
  split at he
  ·rename_i ay
   obtain ⟨ob, o_, pX, eV, axy⟩ := ay
   split at he
   ·rename_i ds s2 lr
    simp only [Option.some.injEq, Prod.mk.injEq] at he
    obtain ⟨rfl, rfl⟩ := he
    obtain ⟨Et, d, Eu, a1, bh, a8, c6, da, cv, cr⟩ := bI.info (ha aD (by simp))
    rw [aD] at cr
    have := k4 cr; subst this
    obtain ⟨i, Ev, z, f1, f2, f3, f4, f5, f6, f7⟩ := bI.info ob
    obtain ⟨fp, lv⟩ := Option.isSome_iff_exists.1 pX
    have pY := f5 fp lv
    have ic : ∀ a7, aB w F (C.T e).zero fp a7 := fun a7 => (aB.flat _).1 _ fp a7 (Nat.le_refl _) lv
    have od : fp.length = (C.T e).sz := by rw [aB.length _ _ _ (ic (fun _ => False)), o_]
    generalize iL : ((Array.range (n * (C.T e).sz)).map ((if n * (C.T e).sz = 0 then #[] else fp.toArray)[· % (if n * (C.T e).sz = 0 then (#[] : Array Value) else fp.toArray).size]!)) = A
    have EF : A.toList = (List.replicate n fp).flatten := by
     rw [← iL]
     by_cases bc : n * (C.T e).sz = 0
     ·have : n = 0 := by
       rcases Nat.mul_eq_zero.1 bc with h | h
       ·exact h
       ·exact (eV h).elim
      subst this
      simp
     ·simp only [bc, if_false]
      have := z6 fp n
      rw [od] at this
      simpa [od] using this
    have eY : nE w F s aF (ps.map fun p => (p.1, nD [] p.2)) vs := by simpa [nD] using aA
    obtain ⟨lS, cy, gS, fM, gN, hI, kF, mg, cC, n8, eK, EE, p1⟩ := EC ps vs [] s S (List.replicate n (C.T e).zero) A (fun _ => False) h eY (by rw [EF]; exact bm.replicate ic n _) (fun _ h => h.elim) (fun _ h => h.elim) (fun _ _ h => h.elim) (fun _ h => h.elim) ds s2 lr
    have hlen : ds.length = n := by rw [eK]; simp
    have IQ := p1 (C.T e).sz (by intro d ak; rw [List.eq_of_mem_replicate ak]; exact o_)
    have QR : lS.toList.length = n * (C.T e).sz := by rw [bm.r_ hI IQ, hlen]
    have QS : lS.size = n * (C.T e).sz := by rw [← QR]; simp
    have axz : n ≤ 16777216 := by
     have : n * 1 ≤ n * (C.T e).sz := Nat.mul_le_mul_left _ (by omega)
     omega
    have j3 := gN.wK (aP := w.alloc (.cells lS e)) (sz := (C.T e).sz) (cap := n) (xs := ds) (cur := lS) (e := e) (fr := (0, 0)) (Sn := gS) rfl rfl rfl rfl
     (fun o _ ⟨_, ai⟩ => absurd ai (Nat.not_lt_zero _)) (by omega) (by unfold maxLen; omega) QS IQ (by rw [hlen, List.take_of_length_le (by omega)]; exact hI) kF mg cC n8
    rw [hlen] at j3
    refine ⟨_, _, F, cy, ?_, j3.1, j3.2⟩
    by_cases bc : n * (C.T e).sz = 0
    ·simp only [bc, if_true] at iL
     have ug : (Array.map (fun _ => (default : Value)) (Array.range 0)) = A := by
      have : n = 0 := by
       rcases Nat.mul_eq_zero.1 bc with h | h
       ·exact h
       ·exact (eV h).elim
      apply Array.ext'
      rw [EF, this]
      simp
     simp [Instr.buildSlice, run_underlying cv, j0 f1, f2, bc, newRow]
     rw [ug, fM]
     simp
    ·simp only [bc, if_false] at iL
     have nv : ¬ (16777216 < n * (C.T e).sz) := by omega
     simp [Instr.buildSlice, run_underlying cv, j0 f1, f2, bc, nv, tU f1 f4, pY, newRow]
     have ug : (Array.map (fun x => fp[x % fp.length]?.getD default) (Array.range (n * (C.T e).sz))) = A := by
      rw [← iL]; simp
     rw [ug, fM]
     simp
   ·cases he
  ·cases he
 ·cases he
end
inductive gj where
 | ab (x : aH)
 | ae (x : aH)
 | pick (c a b : aH)
 | eA (T : TypeId)
 | dd (T : TypeId) (x : aH)
 | fX (T : TypeId) (ps : List (Nat × aH))
 | dJ (T : TypeId) (n : Nat) (ps : List (Nat × aH))
 | aE (T : TypeId) (x : aH)
 | cK (T : TypeId) (x y : aH)
 | dT (x : aH)
 | aw (op : BinOp) (T : TypeId) (x y : aH)
 | un (op : UnOp) (x : aH)
 | fW (A B : TypeId) (x : aH)
 | ie (f : FuncId) (cs : List aH)
 | eX (T : TypeId) (l c : aH)
 | fw (T : TypeId) (x : aH) (dn ao : Option aH)
 | aW (T : TypeId) (x : aH) (k : Nat)
 | bP (T : TypeId) (x i : aH)
 | idx (T : TypeId) (x i : aH)
 | ex (x : aH) (k : Nat)
 | call (f : aH) (args : List aH)
 | len (T : TypeId) (x : aH)
 | app (T bV : TypeId) (x y : aH)
 | shr (bT : gj)
 | nC (T bV : TypeId) (x y : aH)
 | cap (T : TypeId) (x : aH)
 | pc (hD : Bool) (x y : aH)
 | bad
 | mi (f : aH) (args : List aH) (u x : Nat)
 | j6 (f : aH) (args : List aH) (us : List Nat)
 | jJ (T : TypeId) (x : aH)
def gj.base : gj → gj
 | .shr bT => bT
 | .nC T bV x y => .app T bV x y
 | .mi f args _ _ => .call f args
 | .j6 f args _ => .call f args
 | .jJ T x => .dd T x
 | bT => bT
def oe : List Operand → Option (List aH)
 | [] => some []
 | o :: os => match ef o, oe os with
   | some x, some xs => some (x :: xs)
   | _, _ => none
def uh : List (Nat × Operand) → Option (List (Nat × aH))
 | [] => some []
 | (k, o) :: os => match ef o, uh os with
   | some x, some xs => some ((k, x) :: xs)
   | _, _ => none
def wW : Option Operand → Option (Option aH)
 | none => some none
 | some o => (ef o).map some
def dr : Op → Option gj
 | .move x => (ef x).map .ab
 | .assign x => (ef x).map .ae
 | .pick c a b => match ef c, ef a, ef b with
   | some c, some a, some b => some (.pick c a b)
   | _, _, _ => none
 | .alloc T => some (.eA T)
 | .box T x => (ef x).map (.dd T)
 | .build T ps => (uh ps.toList).map (.fX T)
 | .buildSlice T n ps => (uh ps.toList).map (.dJ T n)
 | .load T x => (ef x).map (.aE T)
 | .store T x y => match ef x, ef y with
   | some x, some y => some (.cK T x y)
   | _, _ => none
 | .nilCheck x => (ef x).map .dT
 | .binOp op T x y _ => match ef x, ef y with
   | some x, some y => some (.aw op T x y)
   | _, _ => none
 | .unOp op _ x => (ef x).map (.un op)
 | .convert A B x => (ef x).map (.fW A B)
 | .makeFunc (.func f) first cs => if first.isEmpty then (oe cs.toList).map (.ie f) else none
 | .makeSlice T l c => match ef l, ef c with
   | some l, some c => some (.eX T l c)
   | _, _ => none
 | .slice T x dn ao none => match ef x, wW dn, wW ao with
   | some x, some dn, some ao => some (.fw T x dn ao)
   | _, _, _ => none
 | .fieldAddr T x k => (ef x).map fun x => .aW T x k
 | .indexAddr T x i => match ef x, ef i with
   | some x, some i => some (.bP T x i)
   | _, _ => none
 | .index T x i => match ef x, ef i with
   | some x, some i => some (.idx T x i)
   | _, _ => none
 | .extract x k => (ef x).map fun x => .ex x k
 | .call c => match c.callee with
   | .value f => match ef f, oe c.args.toList with
     | some f, some xs => some (.call f xs)
     | _, _ => none
   | .builtin .len => match c.args.toList, c.argTypes.toList with
     | [x], [T] => (ef x).map (.len T)
     | _, _ => none
   | .builtin .cap => match c.args.toList, c.argTypes.toList with
     | [x], [T] => (ef x).map (.cap T)
     | _, _ => none
   | .builtin .min => match c.args.toList with
     | [x, y] => match ef x, ef y with
       | some x, some y => some (.pc false x y)
       | _, _ => none
     | _ => none
   | .builtin .max => match c.args.toList with
     | [x, y] => match ef x, ef y with
       | some x, some y => some (.pc true x y)
       | _, _ => none
     | _ => none
   | .builtin .append => match c.args.toList, c.argTypes.toList with
     | [x, y], [T, bV] => match ef x, ef y with
       | some x, some y => some (.app T bV x y)
       | _, _ => none
     | _, _ => none
   | _ => none
 | _ => none
def pc (hD : Bool) : I → I → Option I
 | .str a, .str b => some (.str (zz hD a b))
 | _, _ => none
def b6 (C : cw) (s : ax) : gj → Option (I × ax)
 | .ab x => some (aV s x, s)
 | .ae x => match aV s x with
   | .h y q => c2 s (.h y q)
   | d => some (d, s)
 | .pick c a b => match aV s c with
   | .bool fV => some (if fV then aV s a else aV s b, s)
   | _ => none
 | .eA T => (eA C T).map fun d => (d, s)
 | .dd _ x => dd s (aV s x)
 | .fX T ps => fX C s T (ps.map fun p => (p.1, aV s p.2))
 | .dJ T n ps => dJ C s T n (ps.map fun p => (p.1, aV s p.2))
 | .aE T x => (aE C s T (aV s x)).map fun d => (d, s)
 | .cK T x y => (cK C s T (aV s x) (aV s y)).map fun s1 => (.hole, s1)
 | .dT x => (dT s (aV s x)).map fun d => (d, s)
 | .aw op T x y => (aw C s op T (aV s x) (aV s y)).map fun d => (d, s)
 | .un op x => (un op (aV s x)).map fun d => (d, s)
 | .fW A B x => (fW C s A B (aV s x)).map fun d => (d, s)
 | .ie f cs => some (.fn f (cs.map (aV s)), s)
 | .eX T l c => (eX C T (aV s l) (aV s c)).map fun d => (d, s)
 | .fw T x dn ao => fw C s T (aV s x) (dn.map (aV s)) (ao.map (aV s))
 | .aW T x k => (aW C s T (aV s x) k).map fun d => (d, s)
 | .bP T x i => (bP C s T (aV s x) (aV s i)).map fun d => (d, s)
 | .idx T x i => (idx C T (aV s x) (aV s i)).map fun d => (d, s)
 | .ex x k => (ex s (aV s x) k).map fun d => (d, s)
 | .call _ _ => none
 | .len T x => (lN C s T (aV s x)).map fun d => (d, s)
 | .app T bV x y => lQ C s T bV (aV s x) (aV s y)
 | .shr _ => none
 | .mi _ _ _ _ => none
 | .j6 _ _ _ => none
 | .jJ _ x => jJ s (aV s x)
 | .nC T bV x y => (nC C T bV (aV s x) (aV s y)).map fun d => (d, s)
 | .cap T x => match (C.T T).k, aV s x with
   | .slice _, .bu => some (.int .i64 0, s)
   | _, _ => none
 | .pc hD x y => (pc hD (aV s x) (aV s y)).map fun d => (d, s)
 | .bad => none
section
variable {C : cw} {w0 w : World} {F0 X F : Nat → Prop} {S : Nat → Nat → Prop} {s s1 : ax} {a : Act} {av : I}
theorem sb : ∀ {os : List Operand} {xs : List aH}, oe os = some xs → os.map ef = xs.map some
 | [], xs, h => by simp [oe] at h; subst h; rfl
 | o :: os, xs, h => by
   simp only [oe] at h
   split at h
   ·rename_i x IU af ai
    simp at h; subst h
    simp [af, sb ai]
   ·cases h
theorem EH {aF : Nat → Value} (h : bZ w0 F0 X F S s aF w) (eW : ∀ t, aF t = a.tmps.getD t undef) : ∀ {ps : List (Nat × Operand)} {xs : List (Nat × aH)}, uh ps = some xs →
  nE w F s aF (xs.map fun p => (p.1, aV s p.2)) (ps.map fun p => (p.1, a.eval p.2))
 | [], xs, h => by simp [uh] at h; subst h; trivial
 | (k, o) :: ps, xs, bM => by
   simp only [uh] at bM
   split at bM
   ·rename_i x IU af ai
    simp at bM; subst bM
    obtain ⟨bo, bR⟩ := gu h eW af
    exact ⟨rfl, bo, bR, EH h eW ai⟩
   ·cases bM
def Next (C : cw) (w0 : World) (F0 X : Nat → Prop) (aF : Nat → Value) (w : World) (m : Sem Go.Next) (av : I) (s1 : ax) : Prop :=
 ∃ r aP v b9 a7, m.run C.P w = .ok r aP ∧ (r = .value v ∨ r = .skip ∧ v = undef) ∧ bZ w0 F0 X b9 a7 s1 aF aP ∧ k3 w0 X b9 a7 s1 aF aP av v
theorem Good.next {aF : Nat → Value} {m : Sem Value} (h : Good C w0 F0 X aF w m av s1) : Next C w0 F0 X aF w (do pure (.value (← m))) av s1 := by
 obtain ⟨v, aP, b9, a7, af, ai, aN⟩ := h
 exact ⟨.value v, aP, v, b9, a7, by simp [af], .inl rfl, ai, aN⟩
theorem IV {aF : Nat → Value} (h : bZ w0 F0 X F S s aF w) {hD : Bool} {x y : I} {j2 jD : Value} {m : Sem Go.Next} (af : aY w F s aF x j2 (fun _ => False)) (ai : aY w F s aF y jD (fun _ => False))
  (he : (pc hD x y).map (fun d => (d, s)) = some (av, s1)) (hm : m = (do pure (.value (← if hD then Builtin.max2 j2 jD else Builtin.min2 j2 jD)))) : Next C w0 F0 X aF w m av s1 := by
 simp only [Option.map_eq_some_iff, Prod.mk.injEq] at he
 obtain ⟨d, ak, rfl, rfl⟩ := he
 unfold pc at ak
 split at ak
 ·rename_i a b
  simp only [Option.some.injEq] at ak; subst ak
  have a1 := o6 af
  have bh := o6 ai
  subst a1 bh
  subst hm
  refine ⟨.value (.string ⟨⟨zz hD a b⟩⟩), w, _, F, S, ?_, .inl rfl, h, .inl ⟨rfl, n9 _⟩⟩
  cases hD
  ·simp only [Builtin.min2, Op.stringOp, Ej, zz, Bool.false_eq_true, if_false]
   cases ad : (Op.bytesLess a b || a == b) <;> simp [asBool]
  ·simp only [Builtin.max2, Op.stringOp, Ej, zz, if_true]
   cases ad : Op.bytesLess a b <;> simp [asBool]
 ·cases ak
theorem IW (bI : C.Ok) {aF : Nat → Value} (h : bZ w0 F0 X F S s aF w) (eW : ∀ t, aF t = a.tmps.getD t undef) {o : Oper} {bT : gj} (ah : dr o.op = some bT) (he : b6 C s bT = some (av, s1)) :
  Next C w0 F0 X aF w (execOp a.eval o) av s1 := by
 obtain ⟨dst, op, ty, pos, after, guard⟩ := o
 simp only at ah
 cases op with
 | move x =>
   simp only [dr, Option.map_eq_some_iff] at ah
   obtain ⟨cQ, aq, rfl⟩ := ah
   obtain ⟨bo, bR⟩ := gu h eW aq
   simp only [b6, Option.some.injEq, Prod.mk.injEq] at he
   obtain ⟨rfl, rfl⟩ := he
   exact ⟨_, w, _, F, S, rfl, .inl rfl, h, .inl ⟨bo, bR⟩⟩
 | assign x =>
   simp only [dr, Option.map_eq_some_iff] at ah
   obtain ⟨cQ, aq, rfl⟩ := ah
   obtain ⟨bo, bR⟩ := gu h eW aq
   simp only [b6] at he
   split at he
   ·rename_i y q bD
    rw [bD] at bo bR
    obtain ⟨cy, k0, cf, cB, Sn, fD, eQ, gA, dU, j4, _⟩ := qK h bo bR he
    exact ⟨_, w, _, F, cy, rfl, .inl rfl, k0, .inr ⟨cf, cB, Sn, fD, eQ, gA, dU, j4⟩⟩
   ·simp only [Option.some.injEq, Prod.mk.injEq] at he
    obtain ⟨rfl, rfl⟩ := he
    exact ⟨_, w, _, F, S, rfl, .inl rfl, h, .inl ⟨bo, bR⟩⟩
 | pick c x y =>
   simp only [dr] at ah
   split at ah
   ·rename_i wX cQ jZ ay aq bD
    simp only [Option.some.injEq] at ah; subst ah
    simp only [b6] at he
    split at he
    ·rename_i b ad
     simp only [Option.some.injEq, Prod.mk.injEq] at he
     obtain ⟨rfl, rfl⟩ := he
     have sa := (gu h eW ay).2
     rw [ad] at sa
     have sa := r4 sa
     obtain ⟨ag, au⟩ := gu h eW aq
     obtain ⟨fE, hb⟩ := gu h eW bD
     refine ⟨.value (if b then a.eval x else a.eval y), w, _, F, S, ?_, .inl rfl, h, .inl ?_⟩
     ·simp [execOp, sa, asBool]
     ·cases b
      ·exact ⟨fE, hb⟩
      ·exact ⟨ag, au⟩
    ·cases he
   ·cases ah
 | alloc T =>
   simp only [dr, Option.some.injEq] at ah; subst ah
   simp only [b6, Option.map_eq_some_iff, Prod.mk.injEq] at he
   obtain ⟨d, ak, rfl, rfl⟩ := he
   exact (P0 bI h ak).next
 | box T x =>
   simp only [dr, Option.map_eq_some_iff] at ah
   obtain ⟨cQ, aq, rfl⟩ := ah
   obtain ⟨bo, bR⟩ := gu h eW aq
   exact (P2 h bo bR he).next
 | build T ps =>
   simp only [dr, Option.map_eq_some_iff] at ah
   obtain ⟨QT, aA, rfl⟩ := ah
   obtain ⟨ps⟩ := ps
   have := (QN bI h (EH h eW aA) he).next
   simpa [execOp] using this
 | buildSlice T n ps =>
   simp only [dr, Option.map_eq_some_iff] at ah
   obtain ⟨QT, aA, rfl⟩ := ah
   obtain ⟨ps⟩ := ps
   have := (QQ bI h (EH h eW aA) he).next
   simpa [execOp] using this
 | load T x =>
   simp only [dr, Option.map_eq_some_iff] at ah
   obtain ⟨cQ, aq, rfl⟩ := ah
   obtain ⟨bo, bR⟩ := gu h eW aq
   simp only [b6, Option.map_eq_some_iff, Prod.mk.injEq] at he
   obtain ⟨d, ak, rfl, rfl⟩ := he
   exact (PV bI h bR ak).next
 | store T x y =>
   simp only [dr] at ah
   split at ah
   ·rename_i cQ jZ aq bD
    simp only [Option.some.injEq] at ah; subst ah
    simp only [b6, Option.map_eq_some_iff, Prod.mk.injEq] at he
    obtain ⟨s2, ak, rfl, rfl⟩ := he
    obtain ⟨aP, a7, af, ai⟩ := PY bI h (gu h eW aq).2 (gu h eW bD).1 (gu h eW bD).2 ak
    exact ⟨.skip, aP, undef, F, a7, by simp [execOp, af], .inr ⟨rfl, rfl⟩, ai, .inl ⟨rfl, by rw [aY]; trivial⟩⟩
   ·cases ah
 | nilCheck x =>
   simp only [dr, Option.map_eq_some_iff] at ah
   obtain ⟨cQ, aq, rfl⟩ := ah
   obtain ⟨bo, bR⟩ := gu h eW aq
   simp only [b6, Option.map_eq_some_iff, Prod.mk.injEq] at he
   obtain ⟨d, ak, rfl, rfl⟩ := he
   obtain ⟨rfl, aA, aR⟩ := Qa h bR ak
   refine ⟨.value (a.eval x), w, _, F, S, ?_, .inl rfl, h, .inl ⟨aA, bR⟩⟩
   rcases aR with ⟨b, ad⟩ | ⟨f, c, ad⟩ <;> simp [execOp, ad]
 | binOp op T x y axA =>
   simp only [dr] at ah
   split at ah
   ·rename_i cQ jZ aq bD
    simp only [Option.some.injEq] at ah; subst ah
    simp only [b6, Option.map_eq_some_iff, Prod.mk.injEq] at he
    obtain ⟨d, ak, rfl, rfl⟩ := he
    exact (P6 bI h x y (gu h eW aq).2 (gu h eW bD).2 ak).next
   ·cases ah
 | unOp op T x =>
   simp only [dr, Option.map_eq_some_iff] at ah
   obtain ⟨cQ, aq, rfl⟩ := ah
   simp only [b6, Option.map_eq_some_iff, Prod.mk.injEq] at he
   obtain ⟨d, ak, rfl, rfl⟩ := he
   exact (P9 h (gu h eW aq).2 ak).next
 | convert A B x =>
   simp only [dr, Option.map_eq_some_iff] at ah
   obtain ⟨cQ, aq, rfl⟩ := ah
   simp only [b6, Option.map_eq_some_iff, Prod.mk.injEq] at he
   obtain ⟨d, ak, rfl, rfl⟩ := he
   exact (Qi bI h (gu h eW aq).2 ak).next
 | makeFunc fn first cs =>
   cases fn with
   | func f =>
     simp only [dr] at ah
     split at ah
     ·rename_i EI
      simp only [Option.map_eq_some_iff] at ah
      obtain ⟨nF, hH, rfl⟩ := ah
      simp only [b6, Option.some.injEq, Prod.mk.injEq] at he
      obtain ⟨rfl, rfl⟩ := he
      have EJ : first = #[] := by simpa using EI
      subst EJ
      refine ⟨_, w, _, F, S, rfl, .inl rfl, h, .inl ⟨rfl, ?_⟩⟩
      rw [aY]
      refine ⟨cs.map a.eval, by simp, ?_⟩
      simpa using Ab h eW _ _ (sb hH)
     ·cases ah
   | _ => simp [dr] at ah
 | makeSlice T l c =>
   simp only [dr] at ah
   split at ah
   ·rename_i cQ jZ aq bD
    simp only [Option.some.injEq] at ah; subst ah
    simp only [b6, Option.map_eq_some_iff, Prod.mk.injEq] at he
    obtain ⟨d, ak, rfl, rfl⟩ := he
    exact (QE bI h (gu h eW aq).2 (gu h eW bD).2 ak).next
   ·cases ah
 | slice T x dn ao hD =>
   cases hD with
   | some m => simp [dr] at ah
   | none =>
     simp only [dr] at ah
     split at ah
     ·rename_i cQ axB sc aq nx ny
      simp only [Option.some.injEq] at ah; subst ah
      obtain ⟨bo, bR⟩ := gu h eW aq
      have opt : ∀ {o : Option Operand} {mW : Option aH}, wW o = some mW → pV w F s aF (mW.map (aV s)) (o.map a.eval) := by
       intro o mW cl
       cases o with
       | none => simp [wW] at cl; subst cl; trivial
       | some o =>
         simp only [wW, Option.map_eq_some_iff] at cl
         obtain ⟨x, aq, rfl⟩ := cl
         exact (gu h eW aq).2
      exact (Ql bI h bo bR (opt nx) (opt ny) he).next
     ·cases ah
 | fieldAddr T x k =>
   simp only [dr, Option.map_eq_some_iff] at ah
   obtain ⟨cQ, aq, rfl⟩ := ah
   obtain ⟨bo, bR⟩ := gu h eW aq
   simp only [b6, Option.map_eq_some_iff, Prod.mk.injEq] at he
   obtain ⟨d, ak, rfl, rfl⟩ := he
   exact (PN bI h bo bR ak).next
 | indexAddr T x i =>
   simp only [dr] at ah
   split at ah
   ·rename_i cQ jZ aq bD
    simp only [Option.some.injEq] at ah; subst ah
    simp only [b6, Option.map_eq_some_iff, Prod.mk.injEq] at he
    obtain ⟨d, ak, rfl, rfl⟩ := he
    exact (PO bI h (gu h eW aq).2 (gu h eW bD).2 ak).next
   ·cases ah
 | index T x i =>
   simp only [dr] at ah
   split at ah
   ·rename_i cQ jZ aq bD
    simp only [Option.some.injEq] at ah; subst ah
    simp only [b6, Option.map_eq_some_iff, Prod.mk.injEq] at he
    obtain ⟨d, ak, rfl, rfl⟩ := he
    exact (Qf bI h (gu h eW aq).2 (gu h eW bD).2 ak).next
   ·cases ah
 | extract x k =>
   simp only [dr, Option.map_eq_some_iff] at ah
   obtain ⟨cQ, aq, rfl⟩ := ah
   simp only [b6, Option.map_eq_some_iff, Prod.mk.injEq] at he
   obtain ⟨d, ak, rfl, rfl⟩ := he
   exact (Qd h (gu h eW aq).2 ak).next
 | call c =>
   obtain ⟨callee, args, argTypes⟩ := c
   simp only [dr] at ah
   split at ah
   ·split at ah
    ·simp only [Option.some.injEq] at ah; subst ah
     simp [b6] at he
    ·cases ah
   ·split at ah
    ·rename_i x T mj sd
     simp only [Option.map_eq_some_iff] at ah
     obtain ⟨cQ, aq, rfl⟩ := ah
     simp only [b6, Option.map_eq_some_iff, Prod.mk.injEq] at he
     obtain ⟨d, ak, rfl, rfl⟩ := he
     have := (Qg (ty := ty) bI h (gu h eW aq).2 ak).next
     have a1 : args = #[x] := by apply Array.ext'; exact mj
     have bh : argTypes = #[T] := by apply Array.ext'; exact sd
     subst a1 bh
     simpa [execOp, resolve, invoke, builtin] using this
    ·cases ah
   ·split at ah
    ·rename_i x T mj sd
     simp only [Option.map_eq_some_iff] at ah
     obtain ⟨cQ, aq, rfl⟩ := ah
     simp only [b6] at he
     split at he
     ·rename_i e aD QU
      simp only [Option.some.injEq, Prod.mk.injEq] at he
      obtain ⟨rfl, rfl⟩ := he
      have aR := (gu h eW aq).2
      rw [QU] at aR
      have := pU aR
      obtain ⟨i, d, z, a1, bh, a8, c6, da, cv, cr⟩ := bI.info (ha aD (by simp))
      rw [aD] at cr
      have ak := k4 cr; subst ak
      have QV : args = #[x] := by apply Array.ext'; exact mj
      have QW : argTypes = #[T] := by apply Array.ext'; exact sd
      subst QV QW
      have bb : (Builtin.cap_ #[T] ty #[a.eval x]).run C.P w = .ok (.int .i64 0) w := by
       rw [this]; simp [Builtin.cap_, run_underlying cv, goInt]
      have := (Good.same (av := .int .i64 0) h bb rfl (of_int _ _)).next
      simpa [execOp, resolve, invoke, builtin] using this
     ·cases he
    ·cases ah
   ·split at ah
    ·rename_i x y mj
     split at ah
     ·rename_i cQ jZ aq bD
      simp only [Option.some.injEq] at ah; subst ah
      have a1 : args = #[x, y] := by apply Array.ext'; exact mj
      subst a1
      exact IV h (gu h eW aq).2 (gu h eW bD).2 he (by simp [execOp, resolve, invoke, builtin, Builtin.min_])
     ·cases ah
    ·cases ah
   ·split at ah
    ·rename_i x y mj
     split at ah
     ·rename_i cQ jZ aq bD
      simp only [Option.some.injEq] at ah; subst ah
      have a1 : args = #[x, y] := by apply Array.ext'; exact mj
      subst a1
      exact IV h (gu h eW aq).2 (gu h eW bD).2 he (by simp [execOp, resolve, invoke, builtin, Builtin.max_])
     ·cases ah
    ·cases ah
   ·split at ah
    ·rename_i x y T bV mj sd
     split at ah
     ·rename_i cQ jZ aq bD
      simp only [Option.some.injEq] at ah; subst ah
      have := (Qx (ty := ty) bI h (gu h eW aq).2 (gu h eW bD).2 he).next
      have a1 : args = #[x, y] := by apply Array.ext'; exact mj
      have bh : argTypes = #[T, bV] := by apply Array.ext'; exact sd
      subst a1 bh
      simpa [execOp, resolve, invoke, builtin] using this
     ·cases ah
    ·cases ah
   ·cases ah
 | _ => simp [dr] at ah
end
mutual
def I.ah : I → List Nat
 | .h x _ => [x]
 | .aA x _ => [x]
 | .ad x _ => [x]
 | .fn _ cap => I.eL cap
 | _ => []
def I.eL : List I → List Nat
 | [] => []
 | d :: ds => d.ah ++ I.eL ds
end
inductive pd where
 | no
 | cm
 | cW
structure gV where
 k : pd
 x : Nat
 d : I
def pd.app (k : pd) (x : Nat) (a : I) : I := match k with
 | .no => a
 | .cm => c5.cm x a
 | .cW => c5.cW x a
def gV.at (m : gV) (u : Nat) (a : I) : I := if u = m.x then m.d else m.k.app m.x a
def jK : List gV → Nat → I → I
 | [], _, a => a
 | m :: ms, u, a => jK ms u (m.at u a)
def dC (ms : List gV) (s : ax) : ax := fun u => jK ms u (s u)
theorem IX : ∀ (ms kJ : List gV) (u : Nat) (a : I), jK (ms ++ kJ) u a = jK kJ u (jK ms u a)
 | [], _, _, _ => rfl
 | m :: ms, kJ, u, a => by simp only [List.cons_append, jK]; exact IX ms kJ u _
theorem lx (ms kJ : List gV) (s : ax) : dC (ms ++ kJ) s = dC kJ (dC ms s) := by
 funext u; simp [dC, IX]
theorem QX {ms : List gV} {s az : ax} {u : Nat} (h : az u = s u) : dC ms az u = dC ms s u := by simp [dC, h]
theorem wY (s : ax) (x : Nat) (d : I) : dz (iH x s) x d = dC [⟨.cm, x, d⟩] s := by
 funext u; simp only [dC, jK, gV.at, dz, iH, pd.app]
theorem IY (s : ax) (x : Nat) (d : I) : dz (lK x s) x d = dC [⟨.cW, x, d⟩] s := by
 funext u; simp only [dC, jK, gV.at, dz, lK, pd.app]
theorem EK (s : ax) (x : Nat) (d : I) : dz s x d = dC [⟨.no, x, d⟩] s := by
 funext u; simp only [dC, jK, gV.at, dz, pd.app]
mutual
theorem wZ {x : Nat} : ∀ a : I, x ∉ a.ah → cm x a = a
 | .h y q, h => by
   simp only [I.ah, List.mem_singleton] at h
   simp only [cm]; rw [if_neg (fun e => h e.symm)]
 | .aA y q, h => by
   simp only [I.ah, List.mem_singleton] at h
   simp only [cm]; rw [if_neg (fun e => h e.symm)]
 | .ad y q, h => rfl
 | .fn f cap, h => by simp only [cm]; rw [IZ cap (by simpa [I.ah] using h)]
 | .hole, _ => rfl
 | .bool _, _ => rfl
 | .fo, _ => rfl
 | .int _ _, _ => rfl
 | .str _, _ => rfl
 | .dI, _ => rfl
 | .bu, _ => rfl
 | .slice _, _ => rfl
 | .ar _ _, _ => rfl
 | .ref _, _ => rfl
 | .bd _, _ => rfl
 | .agg _, _ => rfl
 | .tuple _, _ => rfl
theorem IZ {x : Nat} : ∀ ds : List I, x ∉ I.eL ds → iA x ds = ds
 | [], _ => rfl
 | d :: ds, h => by
   simp only [I.eL, List.mem_append, not_or] at h
   simp only [iA]; rw [wZ d h.1, IZ ds h.2]
end
mutual
theorem EL {x : Nat} : ∀ a : I, x ∉ a.ah → cW x a = a
 | .h y q, h => by
   simp only [I.ah, List.mem_singleton] at h
   simp only [cW]; rw [if_neg (fun e => h e.symm)]
 | .aA y q, h => by
   simp only [I.ah, List.mem_singleton] at h
   simp only [cW]; rw [if_neg (fun e => h e.symm)]
 | .ad y q, h => by
   simp only [I.ah, List.mem_singleton] at h
   simp only [cW]; rw [if_neg (fun e => h e.symm)]
 | .fn f cap, h => by simp only [cW]; rw [I0 cap (by simpa [I.ah] using h)]
 | .hole, _ => rfl
 | .bool _, _ => rfl
 | .fo, _ => rfl
 | .int _ _, _ => rfl
 | .str _, _ => rfl
 | .dI, _ => rfl
 | .bu, _ => rfl
 | .slice _, _ => rfl
 | .ar _ _, _ => rfl
 | .ref _, _ => rfl
 | .bd _, _ => rfl
 | .agg _, _ => rfl
 | .tuple _, _ => rfl
theorem I0 {x : Nat} : ∀ ds : List I, x ∉ I.eL ds → i6 x ds = ds
 | [], _ => rfl
 | d :: ds, h => by
   simp only [I.eL, List.mem_append, not_or] at h
   simp only [i6]; rw [EL d h.1, I0 ds h.2]
end
theorem w1 {k : pd} {x : Nat} {a : I} (h : k = .no ∨ x ∉ a.ah) : k.app x a = a := by
 cases k with
 | no => rfl
 | cm => exact wZ a (by simpa using h)
 | cW => exact EL a (by simpa using h)
mutual
theorem I1 (x y : Nat) : ∀ a : I, cm x (cm y a) = cm y (cm x a)
 | .h z q => by simp only [cm]; by_cases af : z = x <;> by_cases ai : z = y <;> by_cases aN : q = [] <;> simp [af, ai, aN, cm] <;> (subst_vars; simp_all [cm])
 | .aA z q => by simp only [cm]; by_cases af : z = x <;> by_cases ai : z = y <;> simp [af, ai, cm] <;> (subst_vars; simp_all [cm])
 | .ad z q => rfl
 | .fn f cap => by simp only [cm]; rw [I2 x y cap]
 | .hole => rfl
 | .bool _ => rfl
 | .fo => rfl
 | .int _ _ => rfl
 | .str _ => rfl
 | .dI => rfl
 | .bu => rfl
 | .slice _ => rfl
 | .ar _ _ => rfl
 | .ref _ => rfl
 | .bd _ => rfl
 | .agg _ => rfl
 | .tuple _ => rfl
theorem I2 (x y : Nat) : ∀ ds : List I, iA x (iA y ds) = iA y (iA x ds)
 | [] => rfl
 | d :: ds => by simp only [iA]; rw [I1 x y d, I2 x y ds]
end
mutual
theorem I3 (x y : Nat) : ∀ a : I, cW x (cW y a) = cW y (cW x a)
 | .h z q => by simp only [cW]; by_cases af : z = x <;> by_cases ai : z = y <;> simp [af, ai, cW] <;> (subst_vars; simp_all [cW])
 | .aA z q => by simp only [cW]; by_cases af : z = x <;> by_cases ai : z = y <;> simp [af, ai, cW] <;> (subst_vars; simp_all [cW])
 | .ad z q => by simp only [cW]; by_cases af : z = x <;> by_cases ai : z = y <;> simp [af, ai, cW] <;> (subst_vars; simp_all [cW])
 | .fn f cap => by simp only [cW]; rw [I4 x y cap]
 | .hole => rfl
 | .bool _ => rfl
 | .fo => rfl
 | .int _ _ => rfl
 | .str _ => rfl
 | .dI => rfl
 | .bu => rfl
 | .slice _ => rfl
 | .ar _ _ => rfl
 | .ref _ => rfl
 | .bd _ => rfl
 | .agg _ => rfl
 | .tuple _ => rfl
theorem I4 (x y : Nat) : ∀ ds : List I, i6 x (i6 y ds) = i6 y (i6 x ds)
 | [] => rfl
 | d :: ds => by simp only [i6]; rw [I3 x y d, I4 x y ds]
end
mutual
theorem EM (x y : Nat) : ∀ a : I, cm x (cW y a) = cW y (cm x a)
 | .h z q => by simp only [cW, cm]; by_cases af : z = x <;> by_cases ai : z = y <;> by_cases aN : q = [] <;> simp [af, ai, aN, cW, cm] <;> (subst_vars; simp_all [cW, cm])
 | .aA z q => by simp only [cW, cm]; by_cases af : z = x <;> by_cases ai : z = y <;> simp [af, ai, cW, cm] <;> (subst_vars; simp_all [cW, cm])
 | .ad z q => by simp only [cW, cm]; by_cases ai : z = y <;> simp [ai, cm]
 | .fn f cap => by simp only [cW, cm]; rw [I5 x y cap]
 | .hole => rfl
 | .bool _ => rfl
 | .fo => rfl
 | .int _ _ => rfl
 | .str _ => rfl
 | .dI => rfl
 | .bu => rfl
 | .slice _ => rfl
 | .ar _ _ => rfl
 | .ref _ => rfl
 | .bd _ => rfl
 | .agg _ => rfl
 | .tuple _ => rfl
theorem I5 (x y : Nat) : ∀ ds : List I, iA x (i6 y ds) = i6 y (iA x ds)
 | [] => rfl
 | d :: ds => by simp only [i6, iA]; rw [EM x y d, I5 x y ds]
end
theorem QY (k l : pd) (x y : Nat) (a : I) : k.app x (l.app y a) = l.app y (k.app x a) := by
 cases k <;> cases l <;> simp only [pd.app] <;> first | rfl | exact I1 .. | exact I3 .. | exact EM .. | exact (EM ..).symm
def aH.use (s : ax) : aH → List Nat
 | .t n => n :: (s n).ah
 | .c av => av.ah
 | .f _ => []
def aH.nG (s : ax) : List aH → List Nat
 | [] => []
 | x :: xs => x.use s ++ aH.nG s xs
def EN (s : ax) : Option aH → List Nat
 | none => []
 | some x => x.use s
def use (s : ax) : gj → List Nat
 | .ab x => x.use s
 | .ae x => x.use s
 | .pick c a b => c.use s ++ (a.use s ++ b.use s)
 | .eA _ => []
 | .dd _ x => x.use s
 | .fX _ ps => aH.nG s (ps.map (·.2))
 | .dJ _ _ ps => aH.nG s (ps.map (·.2))
 | .aE _ x => x.use s
 | .cK _ x y => x.use s ++ y.use s
 | .dT x => x.use s
 | .aw _ _ x y => x.use s ++ y.use s
 | .un _ x => x.use s
 | .fW _ _ x => x.use s
 | .ie _ cs => aH.nG s cs
 | .eX _ l c => l.use s ++ c.use s
 | .fw _ x dn ao => x.use s ++ (EN s dn ++ EN s ao)
 | .aW _ x _ => x.use s
 | .bP _ x i => x.use s ++ i.use s
 | .idx _ x i => x.use s ++ i.use s
 | .ex x _ => x.use s
 | .call f args => f.use s ++ aH.nG s args
 | .len _ x => x.use s
 | .app _ _ x y => x.use s ++ y.use s
 | .shr bT => use s bT
 | .mi f args u x => u :: x :: (f.use s ++ aH.nG s args)
 | .j6 f args us => us.flatMap (fun u => u :: (s u).ah) ++ (f.use s ++ aH.nG s args)
 | .jJ _ x => x.use s
 | .nC _ _ x y => x.use s ++ y.use s
 | .cap _ x => x.use s
 | .pc _ x y => x.use s ++ y.use s
 | .bad => []
def dF (s : ax) : gj → List Nat
 | .ae x => (aV s x).ah
 | .dd _ x => (aV s x).ah
 | .fX _ ps => I.eL (ps.map fun p => aV s p.2)
 | .dJ _ _ ps => I.eL (ps.map fun p => aV s p.2)
 | .cK _ x y => (aV s x).ah ++ (aV s y).ah
 | .fw _ x _ _ => (aV s x).ah
 | .app _ _ x y => (aV s x).ah ++ (aV s y).ah
 | .shr bT => dF s bT
 | _ => []
def eh (bV : List Nat) (az s : ax) : Prop := ∀ u ∈ bV, az u = s u
theorem eh.left {bV V : List Nat} {az s : ax} (h : eh (bV ++ V) az s) : eh bV az s := fun u hu => h u (List.mem_append_left _ hu)
theorem eh.right {bV V : List Nat} {az s : ax} (h : eh (bV ++ V) az s) : eh V az s := fun u hu => h u (List.mem_append_right _ hu)
theorem eh.dC {bV : List Nat} {az s : ax} (h : eh bV az s) (ms : List gV) : eh bV (dC ms az) (dC ms s) := fun u hu => QX (h u hu)
theorem eh.sub {bV V : List Nat} {az s : ax} (h : eh bV az s) (ah : ∀ u ∈ V, u ∈ bV) : eh V az s := fun u hu => h u (ah u hu)
theorem aH.se {s : ax} {x : aH} : ∀ u ∈ (aV s x).ah, u ∈ x.use s := by
 intro u hu
 cases x with
 | t n =>
   simp only [aV, i7] at hu
   split at hu
   ·simp [aH.use, hu]
   ·simp only [I.ah, List.mem_singleton] at hu; simp [aH.use, hu]
 | c av => exact hu
 | f g => simp [aV, I.ah, I.eL] at hu
theorem aH.gO {s az : ax} {x : aH} (h : eh (x.use s) az s) : aV az x = aV s x := by
 cases x with
 | t n => simp only [aV]; rw [h n (by simp [aH.use])]
 | c av => rfl
 | f g => rfl
theorem eh.aV {s az : ax} {x : aH} (h : eh (x.use s) az s) : eh (aV s x).ah az s := h.sub aH.se
theorem I6 {s az : ax} {x : Option aH} (h : eh (EN s x) az s) : x.map (aV az) = x.map (aV s) := by
 cases x with
 | none => rfl
 | some x => simp only [Option.map_some]; rw [aH.gO h]
theorem aH.EO {s az : ax} : ∀ {xs : List aH}, eh (aH.nG s xs) az s → xs.map (aV az) = xs.map (aV s)
 | [], _ => rfl
 | x :: xs, h => by
   simp only [List.map_cons]
   rw [aH.gO (h.left), aH.EO (h.right)]
theorem aH.EP {s az : ax} : ∀ {ps : List (Nat × aH)}, eh (aH.nG s (ps.map (·.2))) az s → (ps.map fun p => (p.1, aV az p.2)) = ps.map fun p => (p.1, aV s p.2)
 | [], _ => rfl
 | x :: xs, h => by
   simp only [List.map_cons] at h ⊢
   rw [aH.gO (h.left), aH.EP (h.right)]
theorem aH.Ac {s : ax} : ∀ {xs : List aH}, ∀ u ∈ I.eL (xs.map (aV s)), u ∈ aH.nG s xs
 | [], u, h => by simp [I.eL] at h
 | x :: xs, u, h => by
   simp only [List.map_cons, I.eL, List.mem_append] at h
   simp only [aH.nG, List.mem_append]
   exact h.imp (aH.se u) (aH.Ac u)
section
variable {C : cw} {s az : ax} {x y i : I} {T A B : TypeId}
theorem ER (h : eh x.ah az s) : loc az x = loc s x := by
 cases x <;> first
  | rfl
  | (simp only [loc]; rw [h _ (by simp [I.ah])])
theorem ES {z : Nat} {q : List Nat} (h : loc s x = some (z, q)) : z ∈ x.ah := by
 cases x with
 | h y p =>
   simp only [loc] at h
   split at h
   ·simp only [Option.some.injEq, Prod.mk.injEq] at h; simp [I.ah, h.1]
   ·cases h
 | aA y p =>
   simp only [loc] at h
   split at h
   ·simp only [Option.some.injEq, Prod.mk.injEq] at h; simp [I.ah, h.1]
   ·cases h
 | _ => simp [loc] at h
theorem QZ (h : eh x.ah az s) : aE C az T x = aE C s T x := by
 have hl := ER h
 unfold aE
 split
 ·rfl
 ·rw [h _ (by simp [I.ah])]
 ·rw [hl]
  split
  ·rename_i e
   rw [h _ (ES e)]
  ·rfl
theorem Q0 {k : Nat} (h : eh x.ah az s) : aW C az T x k = aW C s T x k := by
 have hl := ER h
 unfold aW
 split
 ·split
  ·split
   ·split
    ·rfl
    ·rw [h _ (by simp [I.ah])]
    ·rw [hl]
     split
     ·rename_i e
      rw [h _ (ES e)]
     ·rfl
   ·rfl
  ·rfl
 ·rfl
theorem Q1 (h : eh x.ah az s) : bP C az T x i = bP C s T x i := by
 cases x <;> first
  | rfl
  | (simp only [bP]; rw [h _ (by simp [I.ah])])
theorem Q2 (h : eh x.ah az s) : lN C az T x = lN C s T x := by
 unfold lN
 cases (C.T T).k <;> cases x <;> first
  | rfl
  | (simp only; rw [h _ (by simp [I.ah])])
theorem Q3 (h : eh x.ah az s) : fW C az A B x = fW C s A B x := by
 unfold fW
 cases (C.T B).k <;> cases x <;> first
  | rfl
  | (simp only; rw [h _ (by simp [I.ah])])
theorem Q4 (h : eh x.ah az s) : k5 az x = k5 s x := by
 cases x <;> first
  | rfl
  | (simp only [k5]; rw [h _ (by simp [I.ah])])
theorem Q5 (h : eh x.ah az s) : k6 az x = k6 s x := by
 cases x <;> first
  | rfl
  | (simp only [k6]; rw [h _ (by simp [I.ah])])
theorem Q6 {op : BinOp} (h : eh x.ah az s) : aw C az op T x y = aw C s op T x y := by
 have af := Q4 h
 have ai := Q5 h
 unfold aw
 split <;> first | rfl | simp only [af, ai]
theorem Q7 (h : eh x.ah az s) : dT az x = dT s x := by
 cases x <;> first
  | rfl
  | (simp only [dT]; rw [h _ (by simp [I.ah])])
theorem Q8 {k : Nat} (h : eh x.ah az s) : ex az x k = ex s x k := by
 cases x <;> first
  | rfl
  | (simp only [ex]; rw [h _ (by simp [I.ah])])
theorem w2 : ∀ (q : List Nat) (a d e : I), I.sub q a = some d → (d.plain = false ∨ q ≠ []) → (q = [] → e.ah = []) → (I.put q e a).ah = [] := by
 intro q a d e h aA he
 cases q with
 | nil => rw [I.put]; exact he rfl
 | cons k q =>
   cases a <;> first
    | (simp [I.sub] at h; done)
    | skip
   all_goals
    unfold I.put
    repeat' split
    all_goals first | rfl | (simp_all; done)
end
def Loc {α : Type} (bV ui : List Nat) (f : ax → Option (α × ax)) (s : ax) (av : α) (s1 : ax) : Prop :=
 ∃ ms, s1 = dC ms s ∧ (∀ m ∈ ms, m.x ∈ ui ∧ m.d.ah = []) ∧ ∀ az, eh bV az s → f az = some (av, dC ms az)
theorem Loc.pure {α : Type} {bV ui : List Nat} {f : ax → Option (α × ax)} {s : ax} {av : α} (h : ∀ az, eh bV az s → f az = some (av, az)) : Loc bV ui f s av s :=
 ⟨[], rfl, by simp, fun az ah => h az ah⟩
theorem Loc.mono {α : Type} {bV ui Ad I7 : List Nat} {f : ax → Option (α × ax)} {s s1 : ax} {av : α} (h : Loc bV ui f s av s1) (pa : ∀ u ∈ bV, u ∈ Ad) (kC : ∀ u ∈ ui, u ∈ I7) : Loc Ad I7 f s av s1 := by
 obtain ⟨ms, af, ai, aN⟩ := h
 exact ⟨ms, af, fun m hm => ⟨kC _ (ai m hm).1, (ai m hm).2⟩, fun az ah => aN az (ah.sub pa)⟩
section
variable {C : cw} {s s1 : ax} {x y d : I} {T A B : TypeId}
theorem sf (h : c2 s x = some (d, s1)) : Loc x.ah x.ah (fun s => c2 s x) s d s1 := by
 cases x with
 | h y q =>
   simp only [c2] at h
   split at h
   ·rename_i e he
    split at h
    ·cases h
    ·rename_i aA
     simp only [Option.some.injEq, Prod.mk.injEq] at h
     obtain ⟨rfl, rfl⟩ := h
     have aA : e.plain = false := by simpa using aA
     refine ⟨[⟨.cm, y, I.put q e.dq (s y)⟩], wY _ _ _, ?_, ?_⟩
     ·intro m hm
      simp only [List.mem_singleton] at hm; subst hm
      refine ⟨by simp [I.ah], w2 q _ _ _ he (.inl aA) fun dk => ?_⟩
      subst dk
      cases e <;> first | (simp [I.plain] at aA; done) | rfl
     ·intro az ah
      have a1 : az y = s y := ah y (by simp [I.ah])
      simp only [c2, a1, he, aA]
      rw [← wY]; rfl
   ·cases h
 | aA y q => simp [c2] at h
 | ad y q => simp [c2] at h
 | fn f c => simp [c2] at h
 | hole => simp [c2] at h
 | _ =>
   simp only [c2, Option.some.injEq, Prod.mk.injEq] at h
   obtain ⟨rfl, rfl⟩ := h
   exact .pure fun az _ => rfl
mutual
theorem I8 (x : Nat) : ∀ a : I, ∀ u ∈ (cm x a).ah, u ∈ a.ah
 | .h y q, u, h => by
   simp only [cm] at h
   split at h
   ·split at h
    ·exact h
    ·simp [I.ah] at h
   ·exact h
 | .aA y q, u, h => by
   simp only [cm] at h
   split at h
   ·simp [I.ah] at h
   ·exact h
 | .ad y q, u, h => h
 | .fn f cap, u, h => by simp only [cm, I.ah] at h ⊢; exact I9 x cap u h
 | .hole, u, h => h
 | .bool _, u, h => h
 | .fo, u, h => h
 | .int _ _, u, h => h
 | .str _, u, h => h
 | .dI, u, h => h
 | .bu, u, h => h
 | .slice _, u, h => h
 | .ar _ _, u, h => h
 | .ref _, u, h => h
 | .bd _, u, h => h
 | .agg _, u, h => h
 | .tuple _, u, h => h
theorem I9 (x : Nat) : ∀ ds : List I, ∀ u ∈ I.eL (iA x ds), u ∈ I.eL ds
 | [], u, h => h
 | d :: ds, u, h => by
   simp only [iA, I.eL, List.mem_append] at h ⊢
   exact h.imp (I8 x d u) (I9 x ds u)
end
theorem ET (o : Option Nat) (a : I) : ∀ u ∈ (kD o a).ah, u ∈ a.ah := by
 intro u h
 cases o with
 | none => exact h
 | some x => exact I8 x a u h
theorem I_ : ∀ (os : List (Option Nat)) (a : I), ∀ u ∈ (nD os a).ah, u ∈ a.ah := by
 intro os
 induction os with
 | nil => intro a u h; exact h
 | cons o os ih => intro a u h; exact ET o a u (ih (kD o a) u h)
theorem Ja {place : Nat → Option (Nat × Nat)} : ∀ {ps : List (Nat × I)} {s s1 : ax} {zs ds : List I} {os : List (Option Nat)}, e5 place s zs os ps = some (ds, s1) →
  Loc (I.eL (ps.map (·.2))) (I.eL (ps.map (·.2))) (fun s => e5 place s zs os ps) s ds s1 := by
 intro ps
 induction ps with
 | nil =>
   intro s s1 zs ds os h
   simp only [e5, Option.some.injEq, Prod.mk.injEq] at h
   obtain ⟨rfl, rfl⟩ := h
   exact .pure fun az _ => rfl
 | cons p ps ih =>
   intro s s1 zs ds os h
   obtain ⟨k, a⟩ := p
   simp only [e5] at h
   split at h
   ·rename_i d s2 off n z bs gz bY
    split at h
    ·cases h
    ·rename_i bL ml
     split at h
     ·rename_i ay
      obtain ⟨og, rfl, ai, aN⟩ := sf bs
      obtain ⟨sg, rfl, cc, cF⟩ := ih h
      refine ⟨og ++ sg, (lx _ _ _).symm, ?_, ?_⟩
      ·intro m hm
       simp only [List.map_cons, I.eL, List.mem_append] at hm ⊢
       rcases hm with hm | hm
       ·exact ⟨.inl (I_ _ _ _ (ai m hm).1), (ai m hm).2⟩
       ·exact ⟨.inr (cc m hm).1, (cc m hm).2⟩
      ·intro az ah
       simp only [List.map_cons, I.eL] at ah
       have a1 := aN az (ah.left.sub (I_ _ _))
       have bh := cF (dC og az) (ah.right.dC og)
       simp only at a1 bh
       simp only [e5, a1, gz, bY, lx]
       rw [if_pos ay]; exact bh
     ·cases h
   ·cases h
theorem Q9 {ps : List (Nat × I)} {av : I} (h : fX C s T ps = some (av, s1)) : Loc (I.eL (ps.map (·.2))) (I.eL (ps.map (·.2))) (fun s => fX C s T ps) s av s1 := by
 unfold fX at h
 split at h
 ·rename_i aC zs aD bY
  split at h
  ·rename_i ay
   split at h
   ·rename_i ds s2 bJ
    simp only [Option.some.injEq, Prod.mk.injEq] at h
    obtain ⟨rfl, rfl⟩ := h
    obtain ⟨ms, af, ai, aN⟩ := Ja bJ
    refine ⟨ms, af, ai, fun az ah => ?_⟩
    have := aN az ah
    simp only at this
    simp only [fX, aD, bY, if_pos ay, this]
   ·cases h
  ·cases h
 ·cases h
theorem Q_ {n : Nat} {ps : List (Nat × I)} {av : I} (h : dJ C s T n ps = some (av, s1)) : Loc (I.eL (ps.map (·.2))) (I.eL (ps.map (·.2))) (fun s => dJ C s T n ps) s av s1 := by
 unfold dJ at h
 split at h
 ·rename_i e aD
  split at h
  ·rename_i ay
   split at h
   ·rename_i ds s2 bJ
    simp only [Option.some.injEq, Prod.mk.injEq] at h
    obtain ⟨rfl, rfl⟩ := h
    obtain ⟨ms, af, ai, aN⟩ := Ja bJ
    refine ⟨ms, af, ai, fun az ah => ?_⟩
    have := aN az ah
    simp only at this
    simp only [dJ, aD, if_pos ay, this]
   ·cases h
  ·cases h
 ·cases h
theorem Ra {av : I} (h : dd s x = some (av, s1)) : Loc x.ah x.ah (fun s => dd s x) s av s1 := by
 unfold dd at h
 split at h
 ·cases h
 ·rename_i d s2 ml bs
  simp only [Option.some.injEq, Prod.mk.injEq] at h
  obtain ⟨rfl, rfl⟩ := h
  obtain ⟨ms, af, ai, aN⟩ := sf bs
  refine ⟨ms, af, ai, fun az ah => ?_⟩
  have := aN az ah
  simp only at this
  simp only [dd, this]
 ·cases h
theorem Rb {av : I} (h : jJ s x = some (av, s1)) : Loc x.ah [] (fun s => jJ s x) s av s1 := by
 unfold jJ at h
 split at h
 ·rename_i y q
  split at h
  ·rename_i ds mS
   split at h
   ·cases h
   ·rename_i wH
    simp only [Option.some.injEq, Prod.mk.injEq] at h
    obtain ⟨rfl, rfl⟩ := h
    refine .pure fun az ah => ?_
    have e : az y = s y := ah y (by simp [I.ah])
    simp only [jJ, e, mS, if_neg wH]
  ·cases h
 ·cases h
theorem Rc {s2 : ax} (h : cK C s T x y = some s2) : Loc (x.ah ++ y.ah) (x.ah ++ y.ah) (fun s => (cK C s T x y).map fun s1 => (I.hole, s1)) s .hole s2 := by
 unfold cK at h
 split at h
 ·rename_i d s1 z q bs hl
  obtain ⟨ms, af, ai, aN⟩ := sf bs
  have bY := ES hl
  have dk : q ≠ [] := by
   cases x with
   | h y p =>
     simp only [loc] at hl
     split at hl
     ·simp only [Option.some.injEq, Prod.mk.injEq] at hl; simp [← hl.2]
     ·cases hl
   | aA y p =>
     simp only [loc] at hl
     split at hl
     ·rename_i n7
      simp only [Option.some.injEq, Prod.mk.injEq] at hl
      obtain ⟨rfl, rfl⟩ := hl
      intro e; subst e; simp [I.fL] at n7
     ·cases hl
   | _ => simp [loc] at hl
  split at h
  ·cases h
  ·rename_i bL ml
   split at h
   ·rename_i d0 kE
    split at h
    ·rename_i ay
     simp only [Option.some.injEq] at h; subst h
     refine ⟨ms ++ [⟨.cm, z, I.put q d (s z)⟩], ?_, ?_, ?_⟩
     ·rw [lx, ← af, wY]
     ·intro m hm
      simp only [List.mem_append, List.mem_singleton] at hm ⊢
      rcases hm with hm | rfl
      ·exact ⟨.inr (ai m hm).1, (ai m hm).2⟩
      ·exact ⟨.inl bY, w2 q _ _ _ kE (.inr dk) fun e => (dk e).elim⟩
     ·intro az ah
      have a1 := aN az ah.right
      simp only at a1
      simp only [cK, a1, ER ah.left, hl, ah.left z bY, kE]
      cases d <;> first | (simp only [if_pos ay, Option.map_some, lx, wY]; done) | exact (ml _ rfl).elim
    ·cases h
   ·cases h
 ·cases h
theorem Re {dn ao : Option I} {av : I} (h : fw C s T x dn ao = some (av, s1)) : Loc x.ah x.ah (fun s => fw C s T x dn ao) s av s1 := by
 cases x with
 | h y q =>
   unfold fw at h
   split at h <;> first | (cases h; done) | skip
   all_goals (rename_i aq; try cases aq)
   rename_i e aD
   split at h
   ·rename_i sz xs fb
    split at h
    ·rename_i b nx ny
     split at h
     ·rename_i ay
      split at h
      ·rename_i d s2 bs
       simp only [Option.some.injEq, Prod.mk.injEq] at h
       obtain ⟨rfl, rfl⟩ := h
       obtain ⟨ms, af, ai, aN⟩ := sf bs
       refine ⟨ms, af, ai, fun az ah => ?_⟩
       have := aN az ah
       simp only at this
       have a1 : az y = s y := ah y (by simp [I.ah])
       simp only [fw, aD, a1, fb, nx, ny, if_pos ay, this]
      ·cases h
     ·cases h
    ·cases h
   ·cases h
 | _ =>
   have p2 : s1 = s := by
    unfold fw at h
    repeat' split at h
    all_goals first | (cases h; done) | (simp only [Option.some.injEq, Prod.mk.injEq] at h; exact h.2.symm) | simp_all
   subst p2
   refine .pure fun az _ => ?_
   unfold fw at h ⊢
   repeat' split at h
   all_goals first
    | (cases h; done)
    | (simp only [Option.some.injEq, Prod.mk.injEq] at h
       obtain ⟨rfl, _⟩ := h
       simp_all)
def pe (C : cw) (e : TypeId) (s : ax) : I → Option (I × ax)
 | .bu => some (I.ar (C.T e).sz [], s)
 | .h a q => c2 s (.h a q)
 | _ => none
def k8 (s1 : ax) : I → Option (List I × ax)
 | .bu => some ([], s1)
 | .slice cp => some (cp, s1)
 | .str l => some (l.map kj, s1)
 | .h a q => match c2 s1 (.h a q) with
   | some (.ar _ cp, s2) => some (cp, s2)
   | _ => none
 | _ => none
theorem EU (C : cw) (s : ax) (T bV : TypeId) (x y : I) : lQ C s T bV x y = (match (C.T T).k with
 | .slice e => if (C.T e).ok = true ∧ (C.T e).zero.wd = (C.T e).sz ∧ (flat (C.T e).zero).isSome = true ∧ zY C e bV = true then
   match pe C e s x with
   | some (.ar sz xs, s1) => if sz = (C.T e).sz then
     match k8 s1 (kD x.owner y) with
     | some (cp, s2) => if (∀ d ∈ cp, d.wd = (C.T e).sz) ∧ (xs.length + cp.length) * (C.T e).bytes ≤ 140737488355328 ∧ xs.length + cp.length ≤ 9223372036854775807 then some (.ar sz (xs ++ cp), s2) else none
     | none => none
     else none
   | _ => none
   else none
 | _ => none) := by
 unfold lQ
 generalize kD x.owner y = jZ
 cases (C.T T).k <;> first
  | rfl
  | (cases x <;> cases jZ <;> rfl)
theorem Rf {e : TypeId} {d : I} (af : pe C e s x = some (d, s1)) : Loc x.ah x.ah (fun s => pe C e s x) s d s1 := by
 cases x with
 | bu =>
   simp only [pe, Option.some.injEq, Prod.mk.injEq] at af
   obtain ⟨af, rfl⟩ := af
   exact .pure fun az _ => by simp only [pe, af]
 | h a q => exact sf af
 | _ => simp [pe] at af
theorem Rg {cp : List I} (ai : k8 s y = some (cp, s1)) : Loc y.ah y.ah (fun s => k8 s y) s cp s1 := by
 cases y with
 | bu =>
   simp only [k8, Option.some.injEq, Prod.mk.injEq] at ai
   obtain ⟨rfl, rfl⟩ := ai
   exact .pure fun az _ => rfl
 | slice cp =>
   simp only [k8, Option.some.injEq, Prod.mk.injEq] at ai
   obtain ⟨rfl, rfl⟩ := ai
   exact .pure fun az _ => rfl
 | str l =>
   simp only [k8, Option.some.injEq, Prod.mk.injEq] at ai
   obtain ⟨rfl, rfl⟩ := ai
   exact .pure fun az _ => rfl
 | h a q =>
   simp only [k8] at ai
   split at ai
   ·rename_i Qz axC hc bs
    simp only [Option.some.injEq, Prod.mk.injEq] at ai
    obtain ⟨rfl, rfl⟩ := ai
    obtain ⟨ms, bo, bR, cJ⟩ := sf bs
    refine ⟨ms, bo, bR, fun az ah => ?_⟩
    have := cJ az ah
    simp only at this
    simp only [k8, this]
   ·cases ai
 | _ => simp [k8] at ai
theorem Rh {av : I} (h : lQ C s T A x y = some (av, s1)) : Loc (x.ah ++ y.ah) (x.ah ++ y.ah) (fun s => lQ C s T A x y) s av s1 := by
 rw [EU] at h
 split at h
 ·rename_i e aD
  split at h
  ·rename_i ay
   split at h
   ·rename_i sz xs s2 af
    split at h
    ·rename_i eV
     split at h
     ·rename_i cp e9 ai
      split at h
      ·rename_i me
       simp only [Option.some.injEq, Prod.mk.injEq] at h
       obtain ⟨rfl, rfl⟩ := h
       obtain ⟨og, rfl, bq, a3⟩ := Rf af
       obtain ⟨sg, rfl, i_, mh⟩ := (Rg ai).mono (ET _ _) (ET _ _)
       refine ⟨og ++ sg, (lx _ _ _).symm, ?_, ?_⟩
       ·intro m hm
        simp only [List.mem_append] at hm ⊢
        rcases hm with hm | hm
        ·exact ⟨.inl (bq m hm).1, (bq m hm).2⟩
        ·exact ⟨.inr (i_ m hm).1, (i_ m hm).2⟩
       ·intro az ah
        have a1 := a3 az ah.left
        have bh := mh (dC og az) (ah.right.dC og)
        simp only at a1 bh
        simp only [EU, aD, if_pos ay, a1, if_pos eV, bh, if_pos me, lx]
      ·cases h
     ·cases h
    ·cases h
   ·cases h
  ·cases h
 ·cases h
theorem Jb {bT : gj} {av : I} (h : b6 C s bT = some (av, s1)) : Loc (use s bT) (dF s bT) (fun s => b6 C s bT) s av s1 := by
 cases bT with
 | shr bT => simp [b6] at h
 | mi f args u x => simp [b6] at h
 | j6 f args L => simp [b6] at h
 | jJ T x =>
   obtain ⟨ms, af, ai, aN⟩ := Rb h
   refine ⟨ms, af, ai, fun az ah => ?_⟩
   simp only [b6, aH.gO (x := x) ah]
   exact aN az (eh.aV ah)
 | nC T bV x y =>
   simp only [b6, Option.map_eq_some_iff, Prod.mk.injEq] at h
   obtain ⟨d, ak, rfl, rfl⟩ := h
   exact .pure fun az ah => by
    simp only [use] at ah
    simp only [b6, aH.gO (x := x) ah.left, aH.gO (x := y) ah.right, ak, Option.map_some]
 | bad => simp [b6] at h
 | pc hD x y =>
   simp only [b6, Option.map_eq_some_iff, Prod.mk.injEq] at h
   obtain ⟨d, ak, rfl, rfl⟩ := h
   exact .pure fun az ah => by
    simp only [use] at ah
    simp only [b6, aH.gO (x := x) ah.left, aH.gO (x := y) ah.right, ak, Option.map_some]
 | cap T x =>
   simp only [b6] at h
   split at h
   ·rename_i e aD aq
    simp only [Option.some.injEq, Prod.mk.injEq] at h
    obtain ⟨rfl, rfl⟩ := h
    exact .pure fun az ah => by simp only [b6, aH.gO (x := x) ah, aD, aq]
   ·cases h
 | ab x =>
   simp only [b6, Option.some.injEq, Prod.mk.injEq] at h
   obtain ⟨rfl, rfl⟩ := h
   exact .pure fun az ah => by simp only [b6, aH.gO (x := x) ah]
 | ae x =>
   simp only [b6] at h
   split at h
   ·rename_i y q aq
    obtain ⟨ms, af, ai, aN⟩ := sf h
    refine ⟨ms, af, by simpa only [dF, aq] using ai, fun az ah => ?_⟩
    have e := aH.gO (x := x) ah
    have bh := aN az (by rw [← aq]; exact eh.aV ah)
    simp only [b6, e, aq]
    exact bh
   ·rename_i axD
    simp only [Option.some.injEq, Prod.mk.injEq] at h
    obtain ⟨rfl, rfl⟩ := h
    refine .pure fun az ah => ?_
    have e := aH.gO (x := x) ah
    simp only [b6, e]
 | pick c a b =>
   simp only [b6] at h
   split at h
   ·rename_i fV ad
    simp only [Option.some.injEq, Prod.mk.injEq] at h
    obtain ⟨rfl, rfl⟩ := h
    refine .pure fun az ah => ?_
    simp only [use] at ah
    simp only [b6, aH.gO (x := c) ah.left, aH.gO (x := a) ah.right.left, aH.gO (x := b) ah.right.right, ad]
   ·cases h
 | eA T =>
   simp only [b6, Option.map_eq_some_iff, Prod.mk.injEq] at h
   obtain ⟨d, ak, rfl, rfl⟩ := h
   exact .pure fun az ah => by simp only [b6, ak, Option.map_some]
 | dd T x =>
   obtain ⟨ms, af, ai, aN⟩ := Ra h
   refine ⟨ms, af, ai, fun az ah => ?_⟩
   simp only [b6, aH.gO (x := x) ah]
   exact aN az (eh.aV ah)
 | fX T ps =>
   obtain ⟨ms, af, ai, aN⟩ := Q9 h
   simp only [List.map_map, Function.comp_def] at ai aN
   refine ⟨ms, af, ai, fun az ah => ?_⟩
   simp only [b6, aH.EP (ps := ps) ah]
   refine aN az (ah.sub fun u hu => ?_)
   simp only [use]
   exact aH.Ac u (by simpa [List.map_map, Function.comp_def] using hu)
 | dJ T n ps =>
   obtain ⟨ms, af, ai, aN⟩ := Q_ h
   simp only [List.map_map, Function.comp_def] at ai aN
   refine ⟨ms, af, ai, fun az ah => ?_⟩
   simp only [b6, aH.EP (ps := ps) ah]
   refine aN az (ah.sub fun u hu => ?_)
   simp only [use]
   exact aH.Ac u (by simpa [List.map_map, Function.comp_def] using hu)
 | aE T x =>
   simp only [b6, Option.map_eq_some_iff, Prod.mk.injEq] at h
   obtain ⟨d, ak, rfl, rfl⟩ := h
   exact .pure fun az ah => by simp only [b6, aH.gO (x := x) ah, QZ (eh.aV ah), ak, Option.map_some]
 | cK T x y =>
   simp only [b6, Option.map_eq_some_iff, Prod.mk.injEq] at h
   obtain ⟨s2, ak, rfl, rfl⟩ := h
   obtain ⟨ms, af, ai, aN⟩ := Rc ak
   refine ⟨ms, af, ai, fun az ah => ?_⟩
   simp only [use] at ah
   simp only [b6, aH.gO (x := x) ah.left, aH.gO (x := y) ah.right]
   exact aN az (ah.sub fun u hu => by simp only [List.mem_append] at hu ⊢; exact hu.imp (aH.se u) (aH.se u))
 | dT x =>
   simp only [b6, Option.map_eq_some_iff, Prod.mk.injEq] at h
   obtain ⟨d, ak, rfl, rfl⟩ := h
   exact .pure fun az ah => by simp only [b6, aH.gO (x := x) ah, Q7 (eh.aV ah), ak, Option.map_some]
 | aw op T x y =>
   simp only [b6, Option.map_eq_some_iff, Prod.mk.injEq] at h
   obtain ⟨d, ak, rfl, rfl⟩ := h
   refine .pure fun az ah => ?_
   simp only [use] at ah
   simp only [b6, aH.gO (x := x) ah.left, aH.gO (x := y) ah.right, Q6 (eh.aV ah.left), ak, Option.map_some]
 | un op x =>
   simp only [b6, Option.map_eq_some_iff, Prod.mk.injEq] at h
   obtain ⟨d, ak, rfl, rfl⟩ := h
   exact .pure fun az ah => by simp only [b6, aH.gO (x := x) ah, ak, Option.map_some]
 | fW A B x =>
   simp only [b6, Option.map_eq_some_iff, Prod.mk.injEq] at h
   obtain ⟨d, ak, rfl, rfl⟩ := h
   exact .pure fun az ah => by simp only [b6, aH.gO (x := x) ah, Q3 (eh.aV ah), ak, Option.map_some]
 | ie f cs =>
   simp only [b6, Option.some.injEq, Prod.mk.injEq] at h
   obtain ⟨rfl, rfl⟩ := h
   exact .pure fun az ah => by simp only [b6, aH.EO (xs := cs) ah]
 | eX T l c =>
   simp only [b6, Option.map_eq_some_iff, Prod.mk.injEq] at h
   obtain ⟨d, ak, rfl, rfl⟩ := h
   refine .pure fun az ah => ?_
   simp only [use] at ah
   simp only [b6, aH.gO (x := l) ah.left, aH.gO (x := c) ah.right, ak, Option.map_some]
 | fw T x dn ao =>
   simp only [b6] at h
   obtain ⟨ms, af, ai, aN⟩ := Re h
   refine ⟨ms, af, ai, fun az ah => ?_⟩
   simp only [use] at ah
   simp only [b6, aH.gO (x := x) ah.left, I6 ah.right.left, I6 ah.right.right]
   exact aN az (eh.aV ah.left)
 | aW T x k =>
   simp only [b6, Option.map_eq_some_iff, Prod.mk.injEq] at h
   obtain ⟨d, ak, rfl, rfl⟩ := h
   exact .pure fun az ah => by simp only [b6, aH.gO (x := x) ah, Q0 (eh.aV ah), ak, Option.map_some]
 | bP T x i =>
   simp only [b6, Option.map_eq_some_iff, Prod.mk.injEq] at h
   obtain ⟨d, ak, rfl, rfl⟩ := h
   refine .pure fun az ah => ?_
   simp only [use] at ah
   simp only [b6, aH.gO (x := x) ah.left, aH.gO (x := i) ah.right, Q1 (eh.aV ah.left), ak, Option.map_some]
 | idx T x i =>
   simp only [b6, Option.map_eq_some_iff, Prod.mk.injEq] at h
   obtain ⟨d, ak, rfl, rfl⟩ := h
   refine .pure fun az ah => ?_
   simp only [use] at ah
   simp only [b6, aH.gO (x := x) ah.left, aH.gO (x := i) ah.right, ak, Option.map_some]
 | ex x k =>
   simp only [b6, Option.map_eq_some_iff, Prod.mk.injEq] at h
   obtain ⟨d, ak, rfl, rfl⟩ := h
   exact .pure fun az ah => by simp only [b6, aH.gO (x := x) ah, Q8 (eh.aV ah), ak, Option.map_some]
 | call f args => simp [b6] at h
 | len T x =>
   simp only [b6, Option.map_eq_some_iff, Prod.mk.injEq] at h
   obtain ⟨d, ak, rfl, rfl⟩ := h
   exact .pure fun az ah => by simp only [b6, aH.gO (x := x) ah, Q2 (eh.aV ah), ak, Option.map_some]
 | app T bV x y =>
   obtain ⟨ms, af, ai, aN⟩ := Rh h
   refine ⟨ms, af, ai, fun az ah => ?_⟩
   simp only [use] at ah
   simp only [b6, aH.gO (x := x) ah.left, aH.gO (x := y) ah.right]
   exact aN az (ah.sub fun u hu => by simp only [List.mem_append] at hu ⊢; exact hu.imp (aH.se u) (aH.se u))
end
def I.one : I → Bool
 | .agg _ => false
 | .tuple _ => false
 | _ => true
mutual
def view (s : ax) : I → Option I
 | .h x q => match I.sub q (s x) with
   | some d => (match d with | .tuple _ => none | d => if d.plain then none else some d.share)
   | none => none
 | .aA x q => if I.fL q (s x) then (match I.sub q (s x) with
   | some d => (match d with | .tuple _ => none | d => some (.ref d.share))
   | none => none) else none
 | .ad _ _ => none
 | .fn f cap => (views s cap).map (.fn f)
 | .hole => none
 | d => some d
def views (s : ax) : List I → Option (List I)
 | [] => some []
 | d :: ds => match view s d, views s ds with
   | some a, some b => some (a :: b)
   | _, _ => none
end
mutual
theorem EV : ∀ d : I, d.share.plain = true
 | .hole => rfl
 | .bool _ => rfl
 | .fo => rfl
 | .int _ _ => rfl
 | .str _ => rfl
 | .dI => rfl
 | .bu => rfl
 | .slice _ => rfl
 | .ar _ _ => rfl
 | .ref _ => rfl
 | .bd _ => rfl
 | .agg aC => by simp only [I.share, I.plain]; exact EW aC
 | .tuple aC => by simp only [I.share, I.plain]; exact EW aC
 | .fn _ _ => rfl
 | .h _ _ => rfl
 | .aA _ _ => rfl
 | .ad _ _ => rfl
theorem EW : ∀ ds : List I, I.dO (I.shares ds) = true
 | [] => rfl
 | d :: ds => by simp only [I.shares, I.dO]; rw [EV d, EW ds]; rfl
end
theorem Ri {s : ax} {a d : I} (h : a.plain = true) (he : view s a = some d) : d.plain = true := by
 cases a with
 | h x q =>
   simp only [view] at he
   split at he
   ·rename_i e fb
    cases e <;> simp only at he <;> first
     | (cases he; done)
     | (split at he
        ·cases he
        ·simp only [Option.some.injEq] at he
         subst he; exact EV _)
   ·cases he
 | aA x q =>
   simp only [view] at he
   split at he
   ·split at he
    ·rename_i e fb
     cases e <;> simp only at he <;> first
      | (cases he; done)
      | (simp only [Option.some.injEq] at he; subst he; rfl)
    ·cases he
   ·cases he
 | fn f cap =>
   simp only [view, Option.map_eq_some_iff] at he
   obtain ⟨ds, _, rfl⟩ := he
   rfl
 | hole => simp [view] at he
 | ad y q => simp [view] at he
 | _ => simp only [view, Option.some.injEq] at he; subst he; exact h
theorem EX {d : I} {v : Value} (af : ∀ vs, d ≠ .tuple vs) (h : eI d v) : eI d.share v := by
 cases d <;> first | exact h | exact (af _ rfl).elim
theorem Rj (w : World) : ∀ (q : List Nat) (av d bL : I) (cs c_ : List Value) (a cY : Option (Nat × Nat)), I.sub q av = some d → bL.wd = d.wd → dy w q av cs a = some (d, c_, cY) →
  dy w q (I.put q bL av) cs a = some (bL, c_, cY) := by
 intro q
 induction q with
 | nil =>
   intro av d bL cs c_ a cY ak hw h
   simp only [dy, Option.some.injEq, Prod.mk.injEq] at h
   obtain ⟨rfl, rfl, rfl⟩ := h
   simp only [I.put, dy]
 | cons k q ih =>
   intro av d bL cs c_ a cY ak hw h
   cases av with
   | agg aC =>
     simp only [I.sub] at ak
     split at ak
     ·rename_i x aq
      have aD : k < aC.length := (List.getElem?_eq_some_iff.1 aq).1
      simp only [dy, aq] at h
      simp only [I.put, aq, dy]
      rw [List.getElem?_set_self aD]
      simp only [List.take_set_of_le (Nat.le_refl k), I.tQ q x d bL ak hw]
      exact ih _ _ _ _ _ _ _ ak hw h
     ·cases ak
   | tuple aC =>
     simp only [I.sub] at ak
     split at ak
     ·rename_i x aq
      have aD : k < aC.length := (List.getElem?_eq_some_iff.1 aq).1
      simp only [dy, aq] at h
      simp only [I.put, aq, dy]
      rw [List.getElem?_set_self aD]
      simp only [List.take_set_of_le (Nat.le_refl k), I.tQ q x d bL ak hw]
      exact ih _ _ _ _ _ _ _ ak hw h
     ·cases ak
   | ar sz aC =>
     simp only [I.sub] at ak
     split at ak
     ·rename_i x aq
      have aD : k < aC.length := (List.getElem?_eq_some_iff.1 aq).1
      have jo : (aC.set k (I.put q bL x))[k]? = some (I.put q bL x) := List.getElem?_set_self aD
      simp only [I.put, aq]
      rw [dy.eq_def] at h ⊢
      simp only [aq] at h
      simp only
      rw [jo]
      split at h
      ·rename_i a1
       simp only [Option.some.injEq] at a1; subst a1
       exact ih _ _ _ _ _ _ _ ak hw h
      ·cases h
     ·cases ak
   | bd x =>
     cases k with
     | zero =>
       simp only [I.sub] at ak
       rw [dy.eq_def] at h ⊢
       simp only at h
       simp only [I.put]
       split at h
       ·rw [I.tQ q x d bL ak hw]
        exact ih _ _ _ _ _ _ _ ak hw h
       ·cases h
     | succ k => simp [I.sub] at ak
   | _ => simp [I.sub] at ak
section
variable {w0 w aP : World} {F0 X F Fc : Nat → Prop} {S : Nat → Nat → Prop} {s az : ax} {aF ia : Nat → Value}
theorem Rk (h : bZ w0 F0 X F S s aF w) (bH : ∀ b, F b → Fc b) : ∀ n,
  (∀ (a : I) (v : Value) (d : I), SizeOf.sizeOf a ≤ n → (∀ t ∈ a.ah, ∀ b, S t b → Fc b) → view s a = some d → aY w F s aF a v (fun _ => False) → aY w Fc az ia d v (fun _ => False)) ∧
  (∀ (as : List I) (vs : List Value) (ds : List I), SizeOf.sizeOf as ≤ n → (∀ t ∈ I.eL as, ∀ b, S t b → Fc b) → views s as = some ds → e2 w F s aF as vs → e2 w Fc az ia ds vs) := by
 intro n
 induction n with
 | zero => exact ⟨fun a _ _ bY => by cases a <;> simp at bY <;> omega, fun as _ _ bY => by cases as <;> simp at bY <;> omega⟩
 | succ n ih =>
   refine ⟨fun a v d bY bS he aR => ?_, fun as vs ds bY bS he aR => ?_⟩
   ·cases a with
    | h x q =>
      simp only [view] at he
      split at he
      ·rename_i e fb
       have key : (∀ aC, e ≠ .tuple aC) ∧ e.plain = false ∧ d = e.share := by
        cases e <;> simp only at he <;> first
         | (cases he; done)
         | (split at he
            ·cases he
            ·rename_i gz
             simp only [Option.some.injEq] at he
             exact ⟨(fun _ h => by cases h), by simpa using gz, he.symm⟩)
       obtain ⟨ml, gz, rfl⟩ := key
       rw [aY] at aR
       obtain ⟨c_, cY, bo, bR, cJ⟩ := aR e fb gz
       have bs := iz fb (.inl gz)
       have aq := (aY.c9 bs).1 (h.ee x)
       obtain ⟨gq, bq, e4, hj, k0, cf, cB, fD, eQ, gA⟩ := ctx q (s x) (c1 (aF x)) (S x) none e aq.2 fb
       rw [bo] at k0
       simp only [Option.some.injEq, Prod.mk.injEq, true_and] at k0
       obtain ⟨rfl, rfl⟩ := k0
       have Eb : e.share.tree = true := by cases e <;> first | rfl | (simp [I.plain] at gz)
       have bb := aB.shared bH e c_ hj (fun b ad => bS x (by simp [I.ah]) b (cB b ad)) eQ
       exact (aY.c9 Eb).2 ⟨EX ml cJ, by rw [bR]; exact bb⟩
      ·cases he
    | aA x q =>
      simp only [view] at he
      split at he
      ·rename_i n7
       split at he
       ·rename_i e fb
        have key : (∀ aC, e ≠ .tuple aC) ∧ d = .ref e.share := by
         cases e <;> simp only at he <;> first
          | (cases he; done)
          | (simp only [Option.some.injEq] at he; exact ⟨(fun _ h => by cases h), he.symm⟩)
        obtain ⟨ml, rfl⟩ := key
        rw [aY] at aR
        obtain ⟨c_, b, o, bo, rfl⟩ := aR e fb n7
        have bs := iz fb (.inr n7)
        have aq := (aY.c9 bs).1 (h.ee x)
        obtain ⟨gq, bq, e4, hj, k0, cf, cB, fD, eQ, gA⟩ := ctx q (s x) (c1 (aF x)) (S x) none e aq.2 fb
        rw [bo] at k0
        simp only [Option.some.injEq, Prod.mk.injEq, true_and] at k0
        obtain ⟨rfl, rfl⟩ := k0
        have bb := aB.shared bH e c_ hj (fun b ad => bS x (by simp [I.ah]) b (cB b ad)) eQ
        rcases gA with ⟨l, r, _, bh, _⟩ | ⟨fV, cur, ty, fr, l, r, a1, bh, a8, c6, da, _⟩
        ·simp at bh
        ·simp only [Option.some.injEq, Prod.mk.injEq] at a1
         obtain ⟨rfl, rfl⟩ := a1
         refine (aY.c9 rfl).2 ⟨rfl, ?_⟩
         rw [aB]
         refine ⟨b, l.length, c_, rfl, bS x (by simp [I.ah]) b (cf b bh), ?_, bb⟩
         intro j c b_
         simp only [World.cell?, a8]
         have ay : cur[l.length + j]? = some c := by
          rw [← Array.getElem?_toList, da, List.getElem?_append_right (by omega), List.getElem?_append_left (by
           have := (List.getElem?_eq_some_iff.1 b_).1; omega)]
          rw [← b_]; congr 1; omega
         simpa using ay
       ·cases he
      ·cases he
    | fn f cap =>
      simp only [view, Option.map_eq_some_iff] at he
      obtain ⟨ds, iC, rfl⟩ := he
      rw [aY] at aR
      obtain ⟨arr, rfl, ay⟩ := aR
      rw [aY]
      exact ⟨arr, rfl, ih.2 cap _ _ (by simp at bY; omega) (by simpa [I.ah] using bS) iC ay⟩
    | hole => simp [view] at he
    | ad y q => simp [view] at he
    | _ =>
      simp only [view, Option.some.injEq] at he; subst he
      have lL := (aY.c9 rfl).1 aR
      exact (aY.c9 rfl).2 ⟨lL.1, aB.mono bH _ _ _ _ (fun _ h => h) lL.2⟩
   ·cases as with
    | nil =>
      simp only [views, Option.some.injEq] at he; subst he
      rw [e2] at aR ⊢; exact aR
    | cons a as =>
      simp only [views] at he
      split at he
      ·rename_i d ds af ai
       simp only [Option.some.injEq] at he; subst he
       rw [e2] at aR ⊢
       obtain ⟨v, kh, rfl, bo, bR⟩ := aR
       simp at bY
       simp only [I.eL, List.mem_append] at bS
       exact ⟨v, kh, rfl, ih.1 a v d (by omega) (fun t bs => bS t (.inl bs)) af bo, ih.2 as kh ds (by omega) (fun t bs => bS t (.inr bs)) ai bR⟩
      ·cases he
theorem bZ.ja (h : bZ w0 F0 X F S s aF w) {x : Nat} {q : List Nat} {d0 bL : I} {c_ : List Value} {a : Option (Nat × Nat)} {Sn : Nat → Prop}
  (ak : I.sub q (s x) = some d0) (bJ : dy w q (s x) (c1 (aF x)) none = some (d0, c_, a)) (ai : ∀ vs, bL ≠ .tuple vs) (bs : q = [] → bL.tree = true ∧ eI bL (aF x))
  (aN : ∀ k p, q = k :: p → (s x).tree = true ∧ (∀ v, iy d0 v → iy bL v)) (hw : bL.wd = d0.wd)
  (aR : aB w F bL c_ Sn) (fi : ∀ b, Sn b → b < w.heap.size) (bH : ∀ b, Sn b → ¬ F b) (bS : ∀ u b, Sn b → ¬ S u b) (bc : ∀ b, Sn b → X b ∨ w0.heap.size ≤ b) :
  bZ w0 F0 X F (gy S x (fun b => S x b ∨ Sn b)) (dz (lK x s) x (I.put q bL (s x))) aF w := by
 have eW : dz aF x (aF x) = aF := by funext u; simp only [dz]; split <;> simp_all
 have main : (I.put q bL (s x)).tree = true ∧ eI (I.put q bL (s x)) (aF x) ∧ aB w F (I.put q bL (s x)) (c1 (aF x)) (fun b => S x b ∨ Sn b) := by
  cases q with
  | nil =>
    simp only [dy, Option.some.injEq, Prod.mk.injEq] at bJ
    obtain ⟨a1, bh, a8⟩ := bJ
    obtain ⟨bo, bR⟩ := bs rfl
    simp only [I.put]
    refine ⟨bo, ?_, ?_⟩
    ·exact bR
    ·rw [bh]; exact aB.mono (fun _ h => h) _ _ _ _ (fun b ad => .inr ad) aR
  | cons k p =>
    obtain ⟨bo, bR⟩ := aN k p rfl
    have aq := (aY.c9 bo).1 (h.ee x)
    obtain ⟨gq, bq, e4, hj, k0, cf, cB, fD, eQ, gA⟩ := ctx (k :: p) (s x) (c1 (aF x)) (S x) none d0 aq.2 ak
    rw [bJ] at k0
    simp only [Option.some.injEq, Prod.mk.injEq, true_and] at k0
    obtain ⟨rfl, rfl⟩ := k0
    refine ⟨?_, ?_, ?_⟩
    ·rcases rW k p bL (s x) with ⟨aC, gs, a1, e⟩ | ⟨aC, gs, a1, e⟩ | ⟨sz, xs, cp, a1, e⟩ | ⟨y, z, a1, e⟩ | e <;> rw [e] <;> first | rfl | exact bo
    ·refine D7 aq.1 ak bR (fun _ vs e => (ai vs e).elim) hw
    ·have mono : ∀ b, (e4 b ∨ Sn b) → (S x b ∨ Sn b) := fun b ad => ad.imp (cf b) id
     rcases gA with ⟨l, r, a1, bh, a8⟩ | ⟨b, cur, ty, fr, l, r, a1, bh, a8, c6, da, cv⟩
     ·rw [a1]
      exact aB.mono (fun _ h => h) _ _ _ _ mono (a8 w bL c_ Sn (fun _ _ => rfl) (fun _ _ => rfl) hw aR (fun b ad ay => bS x b ad (cf b ay)))
     ·refine aB.mono (fun _ h => h) _ _ _ _ mono (cv w bL c_ Sn (fun _ _ => rfl) (fun _ _ _ => rfl) ?_ hw aR (fun b ad ay => bS x b ad (cf b ay)))
      rw [a8, ← da]
 have := h.HX (t := x) main.1 main.2.1 main.2.2 (by rintro b (ad | ad); exact h.fc x b ad; exact fi b ad) (by rintro b (ad | ad); exact h.gr x b ad; exact bH b ad)
  (by rintro u b dB (ad | ad); exact fun hu => h.gi u x b dB hu ad; exact bS u b ad) (by rintro b (ad | ad); exact h.ek x b ad; exact bc b ad)
 rwa [eW] at this
end
mutual
def I.c4 : I → Bool
 | .slice _ => false
 | .ref _ => false
 | .fn _ _ => false
 | .h _ _ => false
 | .aA _ _ => false
 | .ad _ _ => false
 | .ar _ xs => I.hx xs
 | .bd d => d.c4
 | .agg aC => I.hx aC
 | .tuple aC => I.hx aC
 | _ => true
def I.hx : List I → Bool
 | [] => true
 | d :: ds => d.c4 && I.hx ds
end
mutual
theorem aB.c4 {w : World} {F b9 : Nat → Prop} : ∀ (d : I) (cs : List Value) (S : Nat → Prop), d.c4 = true → aB w F d cs S → aB w b9 d cs S
 | .hole, _, _, _, h => h
 | .bool _, _, _, _, h => h
 | .fo, _, _, _, h => h
 | .int _ _, _, _, _, h => h
 | .str _, _, _, _, h => h
 | .dI, _, _, _, h => h
 | .bu, _, _, _, h => h
 | .slice xs, cs, S, bl, h => by simp [I.c4] at bl
 | .ref d, cs, S, bl, h => by simp [I.c4] at bl
 | .ar sz xs, cs, S, bl, h => by
   rw [aB] at h ⊢
   rcases h with h | ⟨b, cap, cur, e, fr, a7, af, ai, aN, bk, cc, cF, ct, fC, ir, hE, kA⟩
   ·exact .inl h
   ·exact .inr ⟨b, cap, cur, e, fr, a7, af, ai, aN, bk, cc, cF, ct, fC, bm.c4 xs _ _ bl ir, hE, kA⟩
 | .bd d, cs, S, bl, h => by
   rw [aB] at h ⊢
   obtain ⟨b, cur, e, fr, a7, af, ai, aN, bk, cc, cF, ct⟩ := h
   exact ⟨b, cur, e, fr, a7, af, ai, aN, bk, aB.c4 d _ _ bl cc, cF, ct⟩
 | .agg aC, cs, S, bl, h => by rw [aB] at h ⊢; exact bm.c4 aC _ _ bl h
 | .tuple aC, cs, S, bl, h => by rw [aB] at h ⊢; exact bm.c4 aC _ _ bl h
 | .fn _ _, _, _, _, h => h
 | .h _ _, _, _, _, h => h
 | .aA _ _, _, _, _, h => h
 | .ad _ _, _, _, _, h => h
theorem bm.c4 {w : World} {F b9 : Nat → Prop} : ∀ (ds : List I) (cs : List Value) (S : Nat → Prop), I.hx ds = true → bm w F ds cs S → bm w b9 ds cs S
 | [], _, _, _, h => h
 | d :: ds, cs, S, bl, h => by
   simp only [I.hx, Bool.and_eq_true] at bl
   rw [bm] at h ⊢
   obtain ⟨cH, cI, cy, et, af, ai, aN, bk, cc, cF⟩ := h
   exact ⟨cH, cI, cy, et, af, aB.c4 d _ _ bl.1 ai, bm.c4 ds _ _ bl.2 aN, bk, cc, cF⟩
end
theorem Jc : ∀ (q : List Nat) (av d e : I), I.sub q av = some d → I.sub q (I.put q e av) = some e := by
 intro q
 induction q with
 | nil => intro av d e _; simp [I.put, I.sub]
 | cons k q ih =>
   intro av d e h
   cases av with
   | agg aC =>
     simp only [I.sub] at h
     split at h
     ·rename_i x aq
      have aD : k < aC.length := (List.getElem?_eq_some_iff.1 aq).1
      simp only [I.put, aq, I.sub, List.getElem?_set_self aD]
      exact ih _ _ _ h
     ·cases h
   | tuple aC =>
     simp only [I.sub] at h
     split at h
     ·rename_i x aq
      have aD : k < aC.length := (List.getElem?_eq_some_iff.1 aq).1
      simp only [I.put, aq, I.sub, List.getElem?_set_self aD]
      exact ih _ _ _ h
     ·cases h
   | ar sz aC =>
     simp only [I.sub] at h
     split at h
     ·rename_i x aq
      have aD : k < aC.length := (List.getElem?_eq_some_iff.1 aq).1
      simp only [I.put, aq, I.sub, List.getElem?_set_self aD]
      exact ih _ _ _ h
     ·cases h
   | bd x =>
     cases k with
     | zero => simp only [I.sub] at h; simp only [I.put, I.sub]; exact ih _ _ _ h
     | succ k => simp [I.sub] at h
   | _ => simp [I.sub] at h
structure cR where
 a : I
 g : Bool
 d : I
 o : I
def I.own : I → Bool
 | .ar _ _ => true
 | .bd _ => true
 | _ => false
def I.gI : I → Bool
 | .ar _ _ => true
 | .bd _ => true
 | .agg aC => !I.dO aC
 | _ => false
def si (d o : I) : Bool := match d, o with
 | .agg a, .agg b => I.eD a == I.eD b
 | .agg _, _ => false
 | _, .agg _ => false
 | _, _ => true
theorem qR {d : I} (h : d.gI = true) : d.plain = false ∧ d.tree = true ∧ ∀ vs, d ≠ .tuple vs := by
 cases d <;> simp [I.gI] at h <;> first | exact ⟨rfl, rfl, fun vs e => by cases e⟩ | exact ⟨by simp only [I.plain]; exact h, rfl, fun vs e => by cases e⟩
theorem Rl {d o : I} (h : d.gI = true) (cl : o.gI = true) (hl : si d o = true) : o.wd = d.wd ∧ (∀ v, eI d v → eI o v) ∧ ∀ v, iy d.dq v → iy o v := by
 cases d <;> simp [I.gI] at h <;> cases o <;> simp [I.gI] at cl <;> simp [si] at hl <;> first
  | exact ⟨rfl, fun _ h => h, fun _ h => h⟩
  | exact ⟨by simp only [I.wd]; exact hl.symm, fun _ h => h, fun _ h => h⟩
def cR.ok (s : ax) (p : cR) : Prop :=
 if p.g then (match p.a with | .h x q => I.sub q (s x) = some p.d ∧ p.d.gI = true ∧ (p.o = .hole ∨ (p.o.gI = true ∧ si p.d p.o = true)) | _ => False)
 else view s p.a = some p.d
def ig : List cR → Bool
 | [] => true
 | p :: r => (r.all fun cN => !(p.g || cN.g) || (p.a.ah.all fun u => !cN.a.ah.contains u)) && ig r
def cR.take (s : ax) (p : cR) : ax :=
 if p.g then (match p.a with | .h x q => dz (iH x s) x (I.put q p.d.dq (s x)) | _ => s) else s
def cR.ja (s : ax) (p : cR) : ax :=
 if p.g then (match p.a, p.o with | _, .hole => s | .h x q, o => dz (lK x s) x (I.put q o (s x)) | _, _ => s) else s
def fk (s : ax) (ps : List cR) : ax := ps.foldl cR.take s
def hK (s : ax) (ps : List cR) : ax := ps.foldl cR.ja s
section
variable {w0 w aP : World} {F0 X F Fc : Nat → Prop} {S : Nat → Nat → Prop} {s az : ax} {aF ia : Nat → Value}
def Rm (w : World) (F : Nat → Prop) (s1 : ax) (aF : Nat → Value) (p : cR) (v : Value) (Sn : Nat → Prop) : Prop :=
 ∃ x q a0, p.a = .h x q ∧ I.sub q (s1 x) = some p.d.dq ∧ dy w q (s1 x) (c1 (aF x)) none = some (p.d.dq, c1 v, a0) ∧ (s1 x).ah = [] ∧ (q = [] → eI p.d (aF x)) ∧ (q ≠ [] → (s1 x).tree = true) ∧
   eI p.d v ∧ aB w F p.d (c1 v) Sn
theorem Rn {p : cR} {x : Nat} (h : (s x).ah = []) (aA : p.g = true → x ∉ p.a.ah) : cR.take s p x = s x := by
 unfold cR.take
 split
 ·rename_i cg
  cases cz : p.a with
  | h y q =>
    have : x ≠ y := by
     have := aA cg
     rw [cz] at this
     simpa [I.ah] using this
    simp only
    rw [jB _ _ this]
    exact wZ _ (by rw [h]; simp)
  | _ => rfl
 ·rfl
theorem EY : ∀ {ps : List cR} {s : ax} {x : Nat}, (s x).ah = [] → (∀ p ∈ ps, p.g = true → x ∉ p.a.ah) → fk s ps x = s x := by
 intro ps
 induction ps with
 | nil => intros; rfl
 | cons p ps ih =>
   intro s x h aA
   have e := Rn (s := s) (p := p) h (aA p (by simp))
   show fk (cR.take s p) ps x = s x
   rw [ih (by rw [e]; exact h) (fun cN eY => aA cN (by simp [eY])), e]
theorem p3 {d : I} (h : d.own = true) : d.plain = false ∧ d.tree = true ∧ d.dq = .hole ∧ d.one = true ∧ d.wd = 1 ∧ (∀ v, eI d v ↔ Value.g5 v = true) := by
 cases d <;> simp [I.own] at h <;> exact ⟨rfl, rfl, rfl, rfl, rfl, fun v => Iff.rfl⟩
theorem Ro : ∀ (ps : List cR) (vs : List Value) (s : ax) (S : Nat → Nat → Prop), bZ w0 F0 X F S s aF w → ps.length = vs.length →
  (∀ (i : Nat) (p : cR) (v : Value), ps[i]? = some p → vs[i]? = some v → p.a.plain = true ∧ aY w F s aF p.a v (fun _ => False) ∧ (p.g = true → p.ok s)) → ig ps = true →
  ∃ (Sn cy : Nat → Nat → Prop), bZ w0 F0 X F cy (fk s ps) aF w ∧ (∀ u b, cy u b → S u b) ∧
    (∀ (i : Nat) (p : cR) (v : Value), ps[i]? = some p → vs[i]? = some v → p.g = true → Rm w F (fk s ps) aF p v (Sn i)) ∧
    (∀ i b, Sn i b → ∃ p, ps[i]? = some p ∧ p.g = true) ∧
    (∀ i b, Sn i b → ∃ u, S u b) ∧ (∀ i u b, Sn i b → ¬ cy u b) ∧ (∀ i j b, i ≠ j → Sn i b → ¬ Sn j b) ∧
    (∀ (bL : I) (gH : Value) (a7 : Nat → Prop), (∀ p ∈ ps, p.g = true → ∀ u ∈ p.a.ah, u ∉ bL.ah) → aY w F s aF bL gH a7 → aY w F (fk s ps) aF bL gH a7) := by
 intro ps
 induction ps with
 | nil =>
   intro vs s S h hl _ _
   exact ⟨fun _ _ => False, S, h, fun _ _ h => h, fun i p v aA => by simp at aA, fun _ _ h => h.elim, fun _ _ h => h.elim, fun _ _ _ h => h.elim, fun _ _ _ _ h => h.elim, fun _ _ _ _ h => h⟩
 | cons p ps ih =>
   intro vs s S h hl wT kI
   cases vs with
   | nil => simp at hl
   | cons v vs =>
     simp only [List.length_cons, Nat.add_right_cancel_iff] at hl
     simp only [ig, Bool.and_eq_true, List.all_eq_true, Bool.or_eq_true, Bool.not_eq_true'] at kI
     obtain ⟨oh, nH⟩ := kI
     have uj : ∀ cN ∈ ps, (p.g = true ∨ cN.g = true) → ∀ u ∈ p.a.ah, u ∉ cN.a.ah := by
      intro cN eY cg u hu
      rcases oh cN eY with e | e
      ·rcases cg with cg | cg <;> simp [cg] at e
      ·simpa using e u hu
     obtain ⟨f1, f2, f3⟩ := wT 0 p v rfl rfl
     cases cg : p.g with
     | false =>
       have gB : cR.take s p = s := by simp [cR.take, cg]
       obtain ⟨Sn, cy, bo, bR, cJ, eE, fK, ib, iJ, lu⟩ := ih vs s S h hl (fun i cN gH aA aR => wT (i + 1) cN gH (by simpa using aA) (by simpa using aR)) nH
       have a1 : fk s (p :: ps) = fk s ps := by show fk (cR.take s p) ps = _; rw [gB]
       rw [a1]
       refine ⟨fun i => match i with | 0 => fun _ => False | i + 1 => Sn i, cy, bo, bR, ?_, ?_, ?_, ?_, ?_, fun bL gH a7 ak => lu bL gH a7 fun cN eY => ak cN (by simp [eY])⟩
       ·intro i cN gH aA aR hJ
        cases i with
        | zero => simp at aA; subst aA; rw [cg] at hJ; cases hJ
        | succ i => exact cJ i cN gH (by simpa using aA) (by simpa using aR) hJ
       ·intro i b ad
        cases i with
        | zero => exact ad.elim
        | succ i => simpa using eE i b ad
       ·intro i b ad
        cases i with
        | zero => exact ad.elim
        | succ i => exact fK i b ad
       ·intro i u b ad
        cases i with
        | zero => exact ad.elim
        | succ i => exact ib i u b ad
       ·intro i j b dB ao b_
        cases i with
        | zero => exact ao.elim
        | succ i =>
          cases j with
          | zero => exact b_.elim
          | succ j => exact iJ i j b (by omega) ao b_
     | true =>
       have gJ := f3 cg
       simp only [cR.ok, cg, if_true] at gJ
       split at gJ
       ·rename_i x q cz
        obtain ⟨fb, w3, wF⟩ := gJ
        obtain ⟨mX, kK, oi⟩ := qR w3
        have Rp : c2 s p.a = some (p.d, dz (iH x s) x (I.put q p.d.dq (s x))) := by
         rw [cz]; simp only [c2, fb, mX]; rfl
        obtain ⟨cy, t1, t2, t3, Rq, t4, t5, t6, t7, t8, t9, t10, t11⟩ := qK h f1 f2 Rp
        have gB : cR.take s p = dz (iH x s) x (I.put q p.d.dq (s x)) := by simp [cR.take, cg, cz]
        have oj : ∀ cN ∈ ps, x ∉ cN.a.ah := fun cN eY => uj cN eY (.inl cg) x (by rw [cz]; simp [I.ah])
        have EZ : cR.take s p x = I.put q p.d.dq (s x) := by rw [gB, mc]
        have Jd : (cR.take s p x).ah = [] := by
         rw [EZ]; exact w2 q _ _ _ fb (.inl mX) (fun _ => by cases ak : p.d <;> first | rfl | (rw [ak] at w3; simp [I.gI] at w3))
        obtain ⟨Sn, et, bo, bR, cJ, eE, fK, ib, iJ, lu⟩ := ih vs (cR.take s p) cy (by rw [gB]; exact t1) hl (by
         intro i cN gH aA aR
         obtain ⟨cf, cB, fD⟩ := wT (i + 1) cN gH (by simpa using aA) (by simpa using aR)
         have hm : cN ∈ ps := List.mem_of_getElem? aA
         refine ⟨cf, ?_, ?_⟩
         ·have := t11 _ _ _ cB
          rw [cz] at this
          rw [gB]
          simp only [I.owner, kD] at this
          rwa [wZ _ (oj cN hm)] at this
         ·intro hJ
          have := fD hJ
          simp only [cR.ok, hJ, if_true] at this ⊢
          split at this
          ·rename_i y jm sj
           have dB : y ≠ x := fun e => oj cN hm (by rw [sj, e]; simp [I.ah])
           rw [gB, jB _ _ dB]
           have bs := iz this.1 (.inl (qR this.2.1).1)
           simp only [iH, D5 bs]
           exact this
          ·exact this.elim) nH
        have a1 : fk s (p :: ps) = fk (cR.take s p) ps := rfl
        have qS : fk (cR.take s p) ps x = I.put q p.d.dq (s x) := by
         rw [EY Jd (fun cN eY _ => oj cN eY), EZ]
        rw [a1]
        refine ⟨fun i => match i with | 0 => Rq | i + 1 => Sn i, et, bo, fun u b ad => t9 u b (bR u b ad), ?_, ?_, ?_, ?_, ?_, ?_⟩
        rotate_left 5
        ·intro bL gH a7 ak jb
         refine lu bL gH a7 (fun cN eY => ak cN (by simp [eY])) ?_
         have := t11 _ _ _ jb
         rw [cz] at this
         rw [gB]
         simp only [I.owner, kD] at this
         rwa [wZ _ (ak p (by simp) cg x (by rw [cz]; simp [I.ah]))] at this
        ·intro i cN gH aA aR hJ
         cases i with
         | zero =>
           simp at aA aR; subst aA aR
           have Ae := f2
           rw [cz, aY] at Ae
           obtain ⟨c_, a0, cH, cI, kL⟩ := Ae _ fb mX
           refine ⟨x, q, a0, cz, ?_, ?_, ?_, ?_, ?_, t3, t4⟩
           ·rw [qS]; exact Jc q _ _ _ fb
           ·rw [qS, cI]; exact Rj w q _ _ _ _ _ _ _ fb (I.qH _) cH
           ·rw [qS, ← EZ]; exact Jd
           ·intro dk; subst dk
            simp only [I.sub, Option.some.injEq] at fb
            have := (aY.c9 (by rw [fb]; exact kK)).1 (h.ee x)
            rw [fb] at this
            exact this.1
           ·intro dk
            have bs := iz fb (.inl mX)
            rw [qS]
            cases q with
            | nil => exact (dk rfl).elim
            | cons k q => rcases rW k q p.d.dq (s x) with ⟨aC, gs, a1, e⟩ | ⟨aC, gs, a1, e⟩ | ⟨sz, xs, cp, a1, e⟩ | ⟨y, z, a1, e⟩ | e <;> rw [e] <;> first | rfl | exact bs
         | succ i => exact cJ i cN gH (by simpa using aA) (by simpa using aR) hJ
        ·intro i b ad
         cases i with
         | zero => exact ⟨p, rfl, cg⟩
         | succ i => simpa using eE i b ad
        ·intro i b ad
         cases i with
         | zero => exact t10 b ad
         | succ i => obtain ⟨u, hu⟩ := fK i b ad; exact ⟨u, t9 u b hu⟩
        ·intro i u b ad
         cases i with
         | zero => exact fun hu => t7 u b ad (bR u b hu)
         | succ i => exact ib i u b ad
        ·intro i j b dB ao b_
         cases i with
         | zero =>
           cases j with
           | zero => exact dB rfl
           | succ j => obtain ⟨u, hu⟩ := fK j b b_; exact t7 u b ao hu
         | succ i =>
           cases j with
           | zero => obtain ⟨u, hu⟩ := fK i b ao; exact t7 u b b_ hu
           | succ j => exact iJ i j b (by omega) ao b_
       ·exact gJ.elim
end
def gC (l : List I) : ax := fun i => l.getD i .hole
def hL (l : List Value) : Nat → Value := fun i => l.getD i undef
def om (P : Program) (f : FuncId) (args : Array Value) (w : World) (w4 : Value → World → Prop) : Prop :=
 ((callFunc f args).run P w = .ok (.enter f args) w ∧ Calls P f args w (fun e aP => ∃ v, e = .returned v ∧ w4 v aP)) ∨
 ∃ v aP, (callFunc f args).run P w = .ok (.value v) aP ∧ w4 v aP
theorem om.mono {P : Program} {f : FuncId} {args : Array Value} {w : World} {w4 Je : Value → World → Prop} (h : om P f args w w4) (bb : ∀ v aP, w4 v aP → Je v aP) : om P f args w Je := by
 rcases h with ⟨af, ai⟩ | ⟨v, aP, af, ai⟩
 ·exact .inl ⟨af, Calls.mono ai fun e aP ⟨v, e, h⟩ => ⟨v, e, bb v aP h⟩⟩
 ·exact .inr ⟨v, aP, af, bb v aP ai⟩
def aQ (C : cw) (f : FuncId) (as : List I) (r : I) (outs : List I) : Prop :=
 ∀ (w : World) (F X : Nat → Prop) (S : Nat → Nat → Prop) (vs : List Value), vs.length = as.length → bZ w F X F S (gC as) (hL vs) w →
   om C.P f vs.toArray w fun v aP => ∃ b9 a7, bZ w F X b9 a7 (gC (r :: outs)) (hL (v :: vs)) aP
def I.res : I → Bool
 | .h _ _ => false
 | .aA _ _ => false
 | .ad _ _ => false
 | .fn _ _ => false
 | _ => true
theorem Jf {d : I} (h : d.tree = true) : d.ah = [] := by cases d <;> first | rfl | (simp [I.tree] at h)
mutual
theorem E0 {s az : ax} : ∀ (a : I) (d : I), (∀ u ∈ a.ah, (s u).tree = true → az u = s u) → view s a = some d → view az a = some d
 | .h x q, d, hu, h => by
   have bs : (s x).tree = true := by
    simp only [view] at h
    split at h
    ·rename_i e fb
     cases e <;> simp only at h <;> first
      | (cases h; done)
      | (split at h
         ·cases h
         ·rename_i aA
          exact iz fb (.inl (by simpa using aA)))
    ·cases h
   simp only [view] at h ⊢
   rw [hu x (by simp [I.ah]) bs]; exact h
 | .aA x q, d, hu, h => by
   have bs : (s x).tree = true := by
    simp only [view] at h
    split at h
    ·rename_i ay
     split at h
     ·rename_i e fb; exact iz fb (.inr ay)
     ·cases h
    ·cases h
   simp only [view] at h ⊢
   rw [hu x (by simp [I.ah]) bs]; exact h
 | .ad x q, d, hu, h => by simp [view] at h
 | .fn f cap, d, hu, h => by
   simp only [view, Option.map_eq_some_iff] at h ⊢
   obtain ⟨ds, af, ai⟩ := h
   exact ⟨ds, Jg cap ds (by simpa [I.ah] using hu) af, ai⟩
 | .hole, d, hu, h => h
 | .bool _, d, hu, h => h
 | .fo, d, hu, h => h
 | .int _ _, d, hu, h => h
 | .str _, d, hu, h => h
 | .dI, d, hu, h => h
 | .bu, d, hu, h => h
 | .slice _, d, hu, h => h
 | .ar _ _, d, hu, h => h
 | .ref _, d, hu, h => h
 | .bd _, d, hu, h => h
 | .agg _, d, hu, h => h
 | .tuple _, d, hu, h => h
theorem Jg {s az : ax} : ∀ (as : List I) (ds : List I), (∀ u ∈ I.eL as, (s u).tree = true → az u = s u) → views s as = some ds → views az as = some ds
 | [], ds, hu, h => h
 | a :: as, ds, hu, h => by
   simp only [I.eL, List.mem_append] at hu
   simp only [views] at h ⊢
   split at h
   ·rename_i x y af ai
    rw [E0 a x (fun u hm => hu u (.inl hm)) af, Jg as y (fun u hm => hu u (.inr hm)) ai]; exact h
   ·cases h
end
section
variable {C : cw} {w0 w aP : World} {F0 X F Fc : Nat → Prop} {S : Nat → Nat → Prop} {s az : ax} {aF ia : Nat → Value}
def Rr (w : World) (F : Nat → Prop) (s : ax) (aF : Nat → Value) (p : cR) (v : Value) (So : Nat → Prop) : Prop :=
 p.g = true → p.o = .hole ∨ ∃ x q a0 d0, p.a = .h x q ∧ I.sub q (s x) = some d0 ∧ dy w q (s x) (c1 (aF x)) none = some (d0, c1 v, a0) ∧ (s x).ah = [] ∧
  (q = [] → eI p.o (aF x)) ∧ (q ≠ [] → (s x).tree = true) ∧ p.o.gI = true ∧ aB w F p.o (c1 v) So ∧ p.o.wd = d0.wd ∧ ∀ v, iy d0 v → iy p.o v
theorem Rs : ∀ (ps : List cR) (vs : List Value) (s : ax) (S So : Nat → Nat → Prop), bZ w0 F0 X F S s aF w → ps.length = vs.length →
  (∀ (i : Nat) (p : cR) (v : Value), ps[i]? = some p → vs[i]? = some v → Rr w F s aF p v (So i)) →
  (∀ i b, So i b → b < w.heap.size ∧ ¬ F b ∧ (X b ∨ w0.heap.size ≤ b) ∧ ∀ u, ¬ S u b) → (∀ i j b, i ≠ j → So i b → ¬ So j b) → ig ps = true →
  ∃ et, bZ w0 F0 X F et (hK s ps) aF w ∧ ∀ u b, et u b → S u b ∨ ∃ i, So i b := by
 intro ps
 induction ps with
 | nil => intro vs s S So h _ _ _ _ _; exact ⟨S, h, fun u b ad => .inl ad⟩
 | cons p ps ih =>
   intro vs s S So h hl E1 ad ak kI
   cases vs with
   | nil => simp at hl
   | cons v vs =>
     simp only [List.length_cons, Nat.add_right_cancel_iff] at hl
     simp only [ig, Bool.and_eq_true, List.all_eq_true, Bool.or_eq_true, Bool.not_eq_true'] at kI
     obtain ⟨oh, nH⟩ := kI
     have uj : ∀ cN ∈ ps, (p.g = true ∨ cN.g = true) → ∀ u ∈ p.a.ah, u ∉ cN.a.ah := by
      intro cN eY cg u hu
      rcases oh cN eY with e | e
      ·rcases cg with cg | cg <;> simp [cg] at e
      ·simpa using e u hu
     have skip : cR.ja s p = s → ∃ et, bZ w0 F0 X F et (hK s (p :: ps)) aF w ∧ ∀ u b, et u b → S u b ∨ ∃ i, So i b := by
      intro gB
      obtain ⟨et, bo, bR⟩ := ih vs s S (fun i => So (i + 1)) h hl (fun i cN gH aA aR => E1 (i + 1) cN gH (by simpa using aA) (by simpa using aR)) (fun i b h => ad (i + 1) b h)
       (fun i j b dB => ak (i + 1) (j + 1) b (by omega)) nH
      refine ⟨et, ?_, fun u b hu => (bR u b hu).imp id fun ⟨i, ao⟩ => ⟨i + 1, ao⟩⟩
      show bZ _ _ _ _ _ (hK (cR.ja s p) ps) _ _
      rw [gB]; exact bo
     cases cg : p.g with
     | false => exact skip (by simp [cR.ja, cg])
     | true =>
       rcases E1 0 p v rfl rfl cg with cl | ⟨x, q, a0, d0, cz, cH, cI, kL, mf, sk, w5, E2, Rt, E3⟩
       ·exact skip (by simp only [cR.ja, cg, cl, if_true])
       ·obtain ⟨mX, kK, qT⟩ := qR w5
        have gB : cR.ja s p = dz (lK x s) x (I.put q p.o (s x)) := by
         simp only [cR.ja, cg, if_true, cz]
         cases Ru : p.o <;> first | rfl | (rw [Ru] at w5; simp [I.gI] at w5)
        have step := h.ja (x := x) (q := q) (bL := p.o) cH cI qT (fun dk => ⟨kK, mf dk⟩) (fun k r dk => ⟨sk (by rw [dk]; simp), E3⟩) Rt E2
         (fun b h => (ad 0 b h).1) (fun b h => (ad 0 b h).2.1) (fun u b h => (ad 0 b h).2.2.2 u) (fun b h => (ad 0 b h).2.2.1)
        rw [← gB] at step
        obtain ⟨et, bo, bR⟩ := ih vs (cR.ja s p) _ (fun i => So (i + 1)) step hl (by
         intro i cN gH aA aR hJ
         have hm : cN ∈ ps := List.mem_of_getElem? aA
         rcases E1 (i + 1) cN gH (by simpa using aA) (by simpa using aR) hJ with cl | ⟨y, jm, U, d1, cf, cB, fD, eQ, gA, dU, j4, fg, lO⟩
         ·exact .inl cl
         ·have dB : y ≠ x := fun e => uj cN hm (.inl cg) x (by rw [cz]; simp [I.ah]) (by rw [cf, e]; simp [I.ah])
          have mS : cR.ja s p y = s y := by
           rw [gB, jB _ _ dB]
           exact EL _ (by rw [eQ]; simp)
          exact .inr ⟨y, jm, U, d1, cf, by rw [mS]; exact cB, by rw [mS]; exact fD, by rw [mS]; exact eQ, gA, by rw [mS]; exact dU, j4, fg, lO⟩)
         (by
          intro i b ao
          obtain ⟨lR, i_, mh, bz⟩ := ad (i + 1) b ao
          refine ⟨lR, i_, mh, fun u hu => ?_⟩
          simp only [gy] at hu
          split at hu
          ·rcases hu with hu | hu
           ·exact bz _ hu
           ·exact ak 0 (i + 1) b (by omega) hu ao
          ·exact bz _ hu)
         (fun i j b dB => ak (i + 1) (j + 1) b (by omega)) nH
        refine ⟨et, bo, fun u b hu => ?_⟩
        rcases bR u b hu with hu | ⟨i, ao⟩
        ·simp only [gy] at hu
         split at hu
         ·rename_i e; subst e
          exact hu.imp id fun h => ⟨0, h⟩
         ·exact .inl hu
        ·exact .inr ⟨i + 1, ao⟩
def jL (ps : List cR) : Bool := ps.any fun p => !p.g && !p.a.ah.isEmpty
theorem Jh (h : bZ w0 F0 X F S s aF w) {ps : List cR} {vs : List Value} {f : FuncId} {r : I} (hl : ps.length = vs.length)
  (jb : ∀ (i : Nat) (p : cR) (v : Value), ps[i]? = some p → vs[i]? = some v → p.a.plain = true ∧ aY w F s aF p.a v (fun _ => False))
  (gJ : ∀ p ∈ ps, p.ok s) (kI : ig ps = true) (bJ : ∀ (Fc lT : Nat → Prop) (e4 : Nat → Nat → Prop), (∀ b, F b → Fc b) → (∀ b, lT b → ∃ u, S u b) → bZ w Fc lT Fc e4 (gC (ps.map (·.d))) (hL vs) w →
   om C.P f vs.toArray w fun v aP => ∃ b9 a7, bZ w Fc lT b9 a7 (gC (r :: ps.map (·.o))) (hL (v :: vs)) aP) (bb : r.res = true)
  (bl : jL ps = true → r.c4 = true ∧ ∀ p ∈ ps, p.o.c4 = true) :
  om C.P f vs.toArray w fun v aP => ∃ b9 a7, bZ w0 F0 X b9 a7 (hK (fk s ps) ps) aF aP ∧ k3 w0 X b9 a7 (hK (fk s ps) ps) aF aP r v ∧ ∀ b, F b → b9 b ∧ aP.heap[b]? = w.heap[b]? := by
 obtain ⟨Sn, cy, bo, bR, cJ, eE, fK, ib, iJ, lu⟩ := Ro ps vs s S h hl (fun i p v aA aR => ⟨(jb i p v aA aR).1, (jb i p v aA aR).2, fun _ => gJ p (List.mem_of_getElem? aA)⟩) kI
 have apart : ∀ (i j : Nat) (p cN : cR), ps[i]? = some p → ps[j]? = some cN → i ≠ j → (p.g = true ∨ cN.g = true) → ∀ u ∈ p.a.ah, u ∉ cN.a.ah := by
  clear jb gJ bJ bl bo cJ eE lu hl
  induction ps with
  | nil => intro i j p cN aA; simp at aA
  | cons h8 ps ih =>
    simp only [ig, Bool.and_eq_true, List.all_eq_true, Bool.or_eq_true, Bool.not_eq_true'] at kI
    obtain ⟨oh, nH⟩ := kI
    have uj : ∀ cN ∈ ps, (h8.g = true ∨ cN.g = true) → ∀ u ∈ h8.a.ah, u ∉ cN.a.ah := by
     intro cN eY cg u hu
     rcases oh cN eY with e | e
     ·rcases cg with cg | cg <;> simp [cg] at e
     ·simpa using e u hu
    intro i j p cN aA eY dB cg u hu
    cases i with
    | zero =>
      simp at aA; subst aA
      cases j with
      | zero => exact (dB rfl).elim
      | succ j => exact uj cN (List.mem_of_getElem? (by simpa using eY)) cg u hu
    | succ i =>
      cases j with
      | zero =>
        simp at eY; subst eY
        exact fun w6 => uj p (List.mem_of_getElem? (by simpa using aA)) cg.symm u w6 hu
      | succ j => exact ih nH i j p cN (by simpa using aA) (by simpa using eY) (by omega) cg u hu
 let Fc : Nat → Prop := fun b => F b ∨ (jL ps = true ∧ ∃ u, cy u b)
 let lT : Nat → Prop := fun b => ∃ i, Sn i b
 have E4 : ∀ b, F b → ¬ lT b := fun b bH ⟨i, ao⟩ => by obtain ⟨u, hu⟩ := fK i b ao; exact h.gr u b hu bH
 have w7 : ∀ u b, cy u b → ¬ lT b := fun u b hu ⟨i, ao⟩ => ib i u b ao hu
 have Af : ∀ b, lT b → (X b ∨ w0.heap.size ≤ b) ∧ b < w.heap.size := fun b ⟨i, ao⟩ => by obtain ⟨u, hu⟩ := fK i b ao; exact ⟨h.ek u b hu, h.fc u b hu⟩
 have pre : bZ w Fc lT Fc Sn (gC (ps.map (·.d))) (hL vs) w := by
  refine ⟨fun _ h => h, fun _ h => .inl h, ?_, fun i b ao => (Af b ⟨i, ao⟩).2, ?_, fun i j b dB => iJ i j b dB, fun i b ao => .inl ⟨i, ao⟩, ?_, fun _ _ _ => rfl, Nat.le_refl _, rfl, rfl, rfl⟩
  ·rintro b (ad | ⟨_, u, hu⟩)
   ·exact h.gh b ad
   ·exact bo.fc u b hu
  ·rintro i b ao (ad | ⟨_, u, hu⟩)
   ·exact E4 b ad ⟨i, ao⟩
   ·exact ib i u b ao hu
  ·intro t
   cases aA : ps[t]? with
   | none =>
     have : gC (ps.map (·.d)) t = .hole := by simp [gC, List.getD, aA]
     rw [this, aY]; trivial
   | some p =>
     have fi : t < vs.length := by rw [← hl]; exact (List.getElem?_eq_some_iff.1 aA).1
     have aR : vs[t]? = some vs[t] := List.getElem?_eq_getElem fi
     have a1 : gC (ps.map (·.d)) t = p.d := by simp [gC, List.getD, aA]
     have bh : hL vs t = vs[t] := by simp [hL, List.getD, aR]
     rw [a1, bh]
     have hm : p ∈ ps := List.mem_of_getElem? aA
     have aD := gJ p hm
     cases cg : p.g with
     | true =>
       obtain ⟨x, q, a0, cf, cB, fD, eQ, gA, dU, j4, fg⟩ := cJ t p _ aA aR cg
       simp only [cR.ok, cg, if_true, cf] at aD
       exact (aY.c9 (qR aD.2.1).2.1).2 ⟨j4, aB.mono (fun b ad => .inl ad) _ _ _ _ (fun _ h => h) fg⟩
     | false =>
       simp only [cR.ok, cg] at aD
       obtain ⟨f1, f2⟩ := jb t p _ aA aR
       have Ji : ∀ cN ∈ ps, cN.g = true → ∀ u ∈ cN.a.ah, u ∉ p.a.ah := by
        intro cN eY hJ u hu
        obtain ⟨j, b_⟩ := List.getElem?_of_mem eY
        refine apart j t cN p b_ aA (fun e => ?_) (.inl hJ) u hu
        subst e; rw [aA] at b_; simp only [Option.some.injEq] at b_; rw [b_, hJ] at cg; cases cg
       have Ae := lu _ _ _ Ji f2
       have jo : view (fk s ps) p.a = some p.d := E0 _ _ (fun u hu bs => EY (Jf bs) (fun cN eY hJ w6 => Ji cN eY hJ u w6 hu)) (by simpa using aD)
       refine aY.nothing (Ri f1 jo) ((Rk bo (Fc := Fc) (fun b ad => .inl ad) (SizeOf.sizeOf p.a)).1 p.a _ p.d (Nat.le_refl _) ?_ jo Ae)
       intro u hu b ad
       refine .inr ⟨?_, u, ad⟩
       simp only [jL, List.any_eq_true]
       refine ⟨p, hm, ?_⟩
       cases k2 : p.a.ah with
       | nil => rw [k2] at hu; cases hu
       | cons _ _ => simp [cg]
 refine om.mono (bJ Fc lT Sn (fun b ad => .inl ad) (fun b ⟨i, ao⟩ => fK i b ao) pre) ?_
 rintro v aP ⟨b9, a7, ay⟩
 have keep : ∀ b, b < w.heap.size → ¬ lT b → aP.heap[b]? = w.heap[b]? := ay.old
 let oo : Nat → Prop := fun b => if jL ps = true then F b else b9 b
 have Jj : ∀ b, F b → b9 b := fun b ad => ay.hv b (.inl ad)
 have uk : ∀ b, F b → oo b := fun b ad => by
  simp only [oo]; split
  ·exact ad
  ·exact Jj b ad
 have w8 : ∀ b, oo b → b9 b := fun b ad => by
  simp only [oo] at ad; split at ad
  ·exact Jj b ad
  ·exact ad
 have Jk : ∀ b, oo b → F b ∨ lT b ∨ w.heap.size ≤ b := fun b ad => by
  simp only [oo] at ad; split at ad
  ·exact .inl ad
  ·rename_i qQ
   rcases ay.hQ b ad with (ad | ⟨af, _⟩) | ad | ad
   ·exact .inl ad
   ·exact (qQ af).elim
   ·exact .inr (.inl ad)
   ·exact .inr (.inr ad)
 have mid : bZ w0 F0 X oo cy (fk s ps) aF aP := by
  refine ⟨fun b ad => uk b (bo.hv b ad), ?_, fun b ad => ay.gh b (w8 b ad), fun t b ad => Nat.lt_of_lt_of_le (bo.fc t b ad) ay.size, ?_, bo.gi, bo.ek, ?_, ?_, Nat.le_trans bo.size ay.size, ay.os.trans bo.os, ay.tape.trans bo.tape, ay.output.trans bo.output⟩
  ·intro b ad
   rcases Jk b ad with ad | ad | ad
   ·exact bo.hQ b ad
   ·rcases (Af b ad).1 with h | h
    ·exact .inr (.inl h)
    ·exact .inr (.inr h)
   ·exact .inr (.inr (Nat.le_trans bo.size ad))
  ·intro t b bs ad
   rcases Jk b ad with ad | ad | ad
   ·exact bo.gr t b bs ad
   ·exact w7 t b bs ad
   ·exact absurd (bo.fc t b bs) (by omega)
  ·intro t
   exact aY.frame (Sx := cy) (fun b ad => keep b (h.gh b ad) (E4 b ad)) uk (fun x b ad => keep b (bo.fc x b ad) (w7 x b ad)) bo.ee _ _ _ (fun b ad => keep b (bo.fc t b ad) (w7 t b ad)) (bo.ee t)
  ·intro b ad ki
   refine (keep b (Nat.lt_of_lt_of_le ad bo.size) fun aq => ?_).trans (bo.old b ad ki)
   rcases (Af b aq).1 with h | h
   ·exact ki h
   ·omega
 have Jl : ∀ (d : I) (cs : List Value) (ek : Nat → Prop), (jL ps = true → d.c4 = true) → aB aP b9 d cs ek → aB aP oo d cs ek := by
  intro d cs ek EA ic
  by_cases hle : jL ps = true
  ·exact aB.c4 d cs ek (EA hle) ic
  ·exact aB.mono (fun b ad => by simp only [oo]; rw [if_neg hle]; exact ad) _ _ _ _ (fun _ h => h) ic
 have bound : ∀ i b, a7 i b → b < aP.heap.size ∧ ¬ oo b ∧ (X b ∨ w0.heap.size ≤ b) ∧ ∀ u, ¬ cy u b := by
  intro i b ad
  refine ⟨ay.fc i b ad, fun bH => ay.gr i b ad (w8 b bH), ?_, fun u hu => ?_⟩
  ·rcases ay.ek i b ad with aq | aq
   ·exact (Af b aq).1
   ·exact .inr (Nat.le_trans bo.size aq)
  ·rcases ay.ek i b ad with aq | aq
   ·exact w7 u b hu aq
   ·exact absurd (bo.fc u b hu) (by omega)
 obtain ⟨et, cf, cB⟩ := Rs ps vs (fk s ps) cy (fun i => a7 (i + 1)) mid hl (by
  intro i p gH aA aR cg
  have hm : p ∈ ps := List.mem_of_getElem? aA
  have aD := gJ p hm
  obtain ⟨x, q, a0, a1, bh, a8, c6, da, cv, cr, iB⟩ := cJ i p gH aA aR cg
  simp only [cR.ok, cg, if_true, a1] at aD
  rcases aD.2.2 with cl | cl
  ·exact .inl cl
  ·obtain ⟨hS, l2, w9⟩ := Rl aD.2.1 cl.1 cl.2
   refine .inr ⟨x, q, a0, p.d.dq, a1, bh, ?_, c6, fun dk => l2 _ (da dk), cv, cl.1, ?_, hS.trans (I.qH _).symm, w9⟩
   ·cases q with
    | nil => simpa only [dy] using a8
    | cons k q =>
      have bs := cv (by simp)
      rw [D2 (k :: q) _ _ (cy x) none _ ((aY.c9 bs).1 (bo.ee x)).2 bh (fun b ad => keep b (bo.fc x b ad) (w7 x b ad))]
      exact a8
   ·have := ay.ee (i + 1)
    have kG : gC (r :: ps.map (·.o)) (i + 1) = p.o := by simp [gC, List.getD, aA]
    have n_ : hL (v :: vs) (i + 1) = gH := by simp [hL, List.getD, aR]
    rw [kG, n_] at this
    exact Jl _ _ _ (fun hle => (bl hle).2 p hm) ((aY.c9 (qR cl.1).2.1).1 this).2)
  (fun i b ad => bound (i + 1) b ad) (fun i j b dB => ay.gi (i + 1) (j + 1) b (by omega)) kI
 refine ⟨oo, et, cf, ?_, fun b ad => ⟨uk b ad, keep b (h.gh b ad) (E4 b ad)⟩⟩
 have bc := ay.ee 0
 have kG : gC (r :: ps.map (·.o)) 0 = r := rfl
 have n_ : hL (v :: vs) 0 = v := rfl
 rw [kG, n_] at bc
 cases bs : r.tree with
 | false =>
   cases r <;> first
    | (simp [I.tree] at bs; done)
    | (simp [I.res] at bb; done)
    | exact .inl ⟨rfl, by rw [aY]; trivial⟩
 | true =>
   obtain ⟨s1, s2⟩ := (aY.c9 bs).1 bc
   have e9 := Jl _ _ _ (fun hle => (bl hle).1) s2
   refine .inr ⟨bs, s1, a7 0, e9, fun b ad => (bound 0 b ad).1, fun b ad => (bound 0 b ad).2.1, fun u b ad hu => ?_, fun b ad => (bound 0 b ad).2.2.1⟩
   rcases cB u b hu with hu | ⟨i, ao⟩
   ·exact (bound 0 b ad).2.2.2 u hu
   ·exact ay.gi 0 (i + 1) b (by omega) ad ao
theorem Rv (h : bZ w0 F0 X F S s aF w) {ps : List cR} {vs : List Value} {f : FuncId} {r : I} (hl : ps.length = vs.length)
  (jb : ∀ (i : Nat) (p : cR) (v : Value), ps[i]? = some p → vs[i]? = some v → p.a.plain = true ∧ aY w F s aF p.a v (fun _ => False))
  (gJ : ∀ p ∈ ps, p.ok s) (kI : ig ps = true) (bJ : aQ C f (ps.map (·.d)) r (ps.map (·.o))) (bb : r.res = true)
  (bl : jL ps = true → r.c4 = true ∧ ∀ p ∈ ps, p.o.c4 = true) :
  om C.P f vs.toArray w fun v aP => ∃ b9 a7, bZ w0 F0 X b9 a7 (hK (fk s ps) ps) aF aP ∧ k3 w0 X b9 a7 (hK (fk s ps) ps) aF aP r v ∧ ∀ b, F b → b9 b ∧ aP.heap[b]? = w.heap[b]? :=
 Jh h hl jb gJ kI (fun Fc lT e4 _ _ aA => bJ w Fc lT e4 vs (by simp [hl]) aA) bb bl
end
structure cO where
 dst : Option Nat
 bT : gj
 guard : Option (Nat × Bool)
def w_ (ops : Array Oper) : Option (Nat × Bool) → Option (Option (Nat × Bool))
 | none => some none
 | some (j, b) => match (ops[j]?).bind (·.dst) with
   | some t => some (some (t, b))
   | none => none
structure Fr where
 n : Nat
 fx : List Nat
def k9 (n : Fr) : Option Nat → Bool
 | none => true
 | some t => decide (t < n.n) && !n.fx.contains t
def oq (op : Op) : gj := match dr op with
 | some bT => bT
 | none => .bad
def pf (n : Fr) (ops : Array Oper) (o : Oper) : Option cO :=
 if k9 n o.dst = true then match w_ ops o.guard with
  | some g => some ⟨o.dst, oq o.op, g⟩
  | none => none
 else none
def pg (n : Fr) (ops : Array Oper) : List Oper → Option (List cO)
 | [] => some []
 | o :: os => match pf n ops o, pg n ops os with
   | some r, some rs => some (r :: rs)
   | _, _ => none
def Ag (C : cw) (s : ax) (f : aH) (args : List aH) (K : I → ax → Prop) : Prop :=
 ∃ (g : FuncId) (caps : List I) (ps : List cR) (r : I), aV s f = .fn g caps ∧ I.dO caps = true ∧ ps.map (·.a) = args.map (aV s) ++ caps ∧ (∀ p ∈ ps, p.ok s) ∧ ig ps = true ∧
   aQ C g (ps.map (·.d)) r (ps.map (·.o)) ∧ r.res = true ∧ (jL ps = true → r.c4 = true ∧ ∀ p ∈ ps, p.o.c4 = true) ∧ K r (hK (fk s ps) ps)
mutual
def I.fN (s : ax) : I → Bool
 | .h x q => q.isEmpty && (s x).own
 | .ad x _ => !(s x).plain
 | .aA _ _ => false
 | .hole => true
 | .fn _ cap => I.nI s cap
 | d => d.plain
def I.nI (s : ax) : List I → Bool
 | [] => true
 | d :: ds => d.fN s && I.nI s ds
end
def mm (s : ax) : List (Nat × I) → ax
 | [] => s
 | p :: L => mm (dz s p.1 p.2) L
def k_ (s : ax) : List (Nat × I) → Bool
 | [] => true
 | p :: L => p.2.fN s && k_ s L
def jc (s : ax) (us : List Nat) : List (Nat × I) := us.map fun u => (u, s u)
def nJ (C : cw) (s : ax) (bT : gj) (K : I → ax → Prop) : Prop :=
 match bT with
 | .call f args => ∃ (g : FuncId) (caps : List I) (ps : List cR) (r : I), aV s f = .fn g caps ∧ I.dO caps = true ∧ ps.map (·.a) = args.map (aV s) ++ caps ∧ (∀ p ∈ ps, p.ok s) ∧ ig ps = true ∧
   aQ C g (ps.map (·.d)) r (ps.map (·.o)) ∧ r.res = true ∧ (jL ps = true → r.c4 = true ∧ ∀ p ∈ ps, p.o.c4 = true) ∧ K r (hK (fk s ps) ps)
 | .shr bT => ∃ av s1, b6 C s bT = some (av, s1) ∧ av.tree = true ∧ (∀ vs, av ≠ .tuple vs) ∧ K av.share s1
 | .mi f args u x => s u = .h x [] ∧ (s x).own = true ∧ Ag C s f args fun av s1 => s1 u = .hole ∧ (s1 x).own = true ∧ K av (dz s1 u (.h x []))
 | .j6 f args us => k_ s (jc s us) = true ∧ Ag C s f args fun av s1 => k_ s1 (jc s us) = true ∧ K av (mm s1 (jc s us))
 | bT => ∃ av s1, b6 C s bT = some (av, s1) ∧ K av s1
theorem Ah {C : cw} {s : ax} {bT : gj} {K dA : I → ax → Prop} (h : nJ C s bT K) (aD : ∀ av s, K av s → dA av s) : nJ C s bT dA := by
 cases bT with
 | call f args =>
   obtain ⟨g, caps, ps, r, af, gm, ai, aN, bk, cc, cF, ct, fC⟩ := h
   exact ⟨g, caps, ps, r, af, gm, ai, aN, bk, cc, cF, ct, aD _ _ fC⟩
 | shr bT =>
   obtain ⟨av, s1, af, ai, aN, bk⟩ := h
   exact ⟨av, s1, af, ai, aN, aD _ _ bk⟩
 | mi f args u x =>
   obtain ⟨cf, cB, g, caps, ps, r, af, gm, ai, aN, bk, cc, cF, ct, fC, ir, hE⟩ := h
   exact ⟨cf, cB, g, caps, ps, r, af, gm, ai, aN, bk, cc, cF, ct, fC, ir, aD _ _ hE⟩
 | j6 f args us =>
   obtain ⟨cB, g, caps, ps, r, af, gm, ai, aN, bk, cc, cF, ct, fC, ir⟩ := h
   exact ⟨cB, g, caps, ps, r, af, gm, ai, aN, bk, cc, cF, ct, fC, aD _ _ ir⟩
 | _ =>
   obtain ⟨av, s1, af, ai⟩ := h
   exact ⟨av, s1, af, aD _ _ ai⟩
def ly (C : cw) (s : ax) (o : cO) (K : ax → Prop) : Prop :=
 match o.guard with
 | none => nJ C s o.bT fun av s1 => K (fin s1 o.dst av)
 | some (t, b) => match s t with
   | .bool fV => if fV = b then nJ C s o.bT (fun av s1 => K (fin s1 o.dst av)) else K (fin s o.dst (.tuple []))
   | .tuple [] => K (fin s o.dst (.tuple []))
   | _ => False
def la (C : cw) (s : ax) : List cO → (ax → Prop) → Prop
 | [], K => K s
 | o :: os, K => ly C s o fun s1 => la C s1 os K
def jM (C : cw) (ros : List cO) (s : ax) : List Nat → (ax → Prop) → Prop
 | [], K => K s
 | i :: l, K => match ros[i]? with
   | none => jM C ros s l K
   | some o => ly C s o fun s1 => jM C ros s1 l K
theorem Rw (C : cw) (K : ax → Prop) : ∀ (rs pre : List cO) (s : ax), la C s rs K → jM C (pre ++ rs) s ((List.range rs.length).map (· + pre.length)) K := by
 intro rs
 induction rs with
 | nil => intro pre s h; exact h
 | cons r rs ih =>
   intro pre s h
   rw [List.length_cons, List.range_succ_eq_map, List.map_cons, List.map_map]
   simp only [jM, Nat.zero_add]
   rw [List.getElem?_append_right (Nat.le_refl _)]
   simp only [Nat.sub_self, List.getElem?_cons_zero]
   have key : ∀ s1, la C s1 rs K → jM C (pre ++ r :: rs) s1 ((List.range rs.length).map ((fun x => x + pre.length) ∘ Nat.succ)) K := by
    intro s1 af
    have := ih (pre ++ [r]) s1 af
    simp only [List.append_assoc, List.singleton_append, List.length_append, List.length_singleton] at this
    have e : ((fun x => x + pre.length) ∘ Nat.succ) = fun x => x + (pre.length + 1) := by funext x; simp; omega
    rw [e]; exact this
   simp only [la] at h
   unfold ly at h ⊢
   split
   ·rename_i cg; rw [cg] at h; exact Ah h fun av s1 => key _
   ·rename_i t b cg
    rw [cg] at h
    simp only at h
    split
    ·rename_i fV ah
     rw [ah] at h
     simp only at h
     split
     ·rename_i ad; rw [if_pos ad] at h; exact Ah h fun av s1 => key _
     ·rename_i ad; rw [if_neg ad] at h; exact key _ h
    ·rename_i ah; rw [ah] at h; exact key _ h
    ·rename_i af ai
     split at h
     ·exact af _ (by assumption)
     ·exact ai (by assumption)
     ·exact h
structure Rel (w0 : World) (F0 X : Nat → Prop) (n : Fr) (ρ : Nat → Value) (s : ax) (a : Act) (w : World) : Prop where
 defers : a.defers = []
 size : a.tmps.size = n.n
 fixed : ∀ i ∈ n.fx, a.tmps.getD i undef = ρ i
 rel : ∃ F S, bZ w0 F0 X F S s (fun t => a.tmps.getD t undef) w
section
variable {C : cw} {w0 w : World} {F0 X : Nat → Prop} {n : Fr} {ρ : Nat → Value} {s s1 : ax} {a : Act} {av : I} {Q : Exit → Act → World → Prop}
theorem xa {dst : Option Nat} (v : Value) (ah : a.tmps.size = n.n) (ak : k9 n dst = true) :
  (fun t => (a.put dst v).tmps.getD t undef) = n6 (fun t => a.tmps.getD t undef) dst v ∧ (a.put dst v).tmps.size = n.n ∧ (a.put dst v).defers = a.defers := by
 cases dst with
 | none => exact ⟨rfl, ah, rfl⟩
 | some d =>
   simp only [k9, Bool.and_eq_true, decide_eq_true_eq] at ak
   refine ⟨?_, by simp [Act.put, ah], rfl⟩
   funext t
   simp only [Act.put, n6, dz, Array.getD_eq_getD_getElem?]
   by_cases h : t = d
   ·subst h
    rw [if_pos rfl, Array.getElem?_setIfInBounds_self_of_lt (by omega)]; rfl
   ·rw [if_neg h, Array.getElem?_setIfInBounds_ne (fun e => h e.symm)]
theorem Rel.put {F S} (ak : a.defers = []) (ah : a.tmps.size = n.n) (bJ : ∀ i ∈ n.fx, a.tmps.getD i undef = ρ i) {aP : World} (bb : bZ w0 F0 X F S s (fun t => a.tmps.getD t undef) aP) {v : Value} (aR : k3 w0 X F S s (fun t => a.tmps.getD t undef) aP av v)
  {dst : Option Nat} (gJ : k9 n dst = true) : Rel w0 F0 X n ρ (fin s dst av) (a.put dst v) aP := by
 obtain ⟨a1, bh, a8⟩ := xa (n := n) (dst := dst) v ah gJ
 obtain ⟨a7, bM⟩ := bb.fin aR dst
 refine ⟨a8.trans ak, bh, fun i ao => ?_, F, a7, by rw [a1]; exact bM⟩
 rw [congrFun a1 i]
 cases dst with
 | none => exact bJ i ao
 | some d =>
   simp only [k9, Bool.and_eq_true, Bool.not_eq_true', List.contains_eq_mem, decide_eq_false_iff_not] at gJ
   have dB : i ≠ d := fun e => gJ.2 (by rw [← e]; exact ao)
   simp only [n6]
   rw [jB _ _ dB]
   exact bJ i ao
theorem Rel.skip (h : Rel w0 F0 X n ρ s a w) {dst : Option Nat} (gJ : k9 n dst = true) : Rel w0 F0 X n ρ (fin s dst (.tuple [])) (a.put dst undef) w := by
 obtain ⟨ak, ah, bJ, F, S, bb⟩ := h
 refine Rel.put (av := .tuple []) ak ah bJ bb (.inl ⟨rfl, (aY.c9 (d := .tuple []) rfl).2 ⟨?_, ?_⟩⟩) gJ
 ·exact ⟨#[], rfl, rfl, fun k d x aD => by simp at aD⟩
 ·rw [aB, bm]; rfl
theorem Jm {F : Nat → Prop} {aF : Nat → Value} {w : World} : ∀ {ds es : List I} {vs us : List Value}, e2 w F s aF ds vs → e2 w F s aF es us → e2 w F s aF (ds ++ es) (vs ++ us) := by
 intro ds
 induction ds with
 | nil => intro es vs us af ai; rw [e2] at af; subst af; exact ai
 | cons d ds ih =>
   intro es vs us af ai
   rw [e2] at af
   obtain ⟨v, kh, rfl, bo, bR⟩ := af
   rw [List.cons_append, List.cons_append, e2]
   exact ⟨v, _, rfl, bo, ih bR ai⟩
theorem Jn {F : Nat → Prop} {aF : Nat → Value} {w : World} : ∀ {ds : List I} {vs : List Value}, e2 w F s aF ds vs → ds.length = vs.length ∧ ∀ (i : Nat) (d : I) (v : Value), ds[i]? = some d → vs[i]? = some v → aY w F s aF d v (fun _ => False) := by
 intro ds
 induction ds with
 | nil => intro vs h; rw [e2] at h; subst h; exact ⟨rfl, fun i d v h => by simp at h⟩
 | cons d ds ih =>
   intro vs h
   rw [e2] at h
   obtain ⟨v, kh, rfl, bo, bR⟩ := h
   obtain ⟨cf, cB⟩ := ih bR
   refine ⟨by simp [cf], fun i bL gH ak aR => ?_⟩
   cases i with
   | zero => simp at ak aR; subst ak aR; exact bo
   | succ i => exact cB i bL gH (by simpa using ak) (by simpa using aR)
theorem ot {op : Op} {bT : gj} (h : oq op = bT) : bT = .bad ∨ dr op = some bT := by
 unfold oq at h
 split at h
 ·subst h; right; assumption
 ·exact .inl h.symm
theorem Rx {op : Op} {bT : gj} : dr op ≠ some (.shr bT) := by
 intro h
 unfold dr at h
 split at h <;> (try split at h) <;> (try split at h) <;> (try split at h) <;> (try simp [Option.map_eq_some_iff] at h)
theorem Ry {op : Op} {f : aH} {args : List aH} {u x : Nat} : dr op ≠ some (.mi f args u x) := by
 intro h
 unfold dr at h
 split at h <;> (try split at h) <;> (try split at h) <;> (try split at h) <;> (try simp [Option.map_eq_some_iff] at h)
theorem Rz {op : Op} {f : aH} {args : List aH} {us : List Nat} : dr op ≠ some (.j6 f args us) := by
 intro h
 unfold dr at h
 split at h <;> (try split at h) <;> (try split at h) <;> (try split at h) <;> (try simp [Option.map_eq_some_iff] at h)
theorem RA {op : Op} {T : TypeId} {x : aH} : dr op ≠ some (.jJ T x) := by
 intro h
 unfold dr at h
 split at h <;> (try split at h) <;> (try split at h) <;> (try split at h) <;> (try simp [Option.map_eq_some_iff] at h)
theorem RB {op : Op} {T bV : TypeId} {x y : aH} : dr op ≠ some (.nC T bV x y) := by
 intro h
 unfold dr at h
 split at h <;> (try split at h) <;> (try split at h) <;> (try split at h) <;> (try simp [Option.map_eq_some_iff] at h)
theorem RC {op : Op} {T bV : TypeId} {x y : aH} (h : dr op = some (.app T bV x y)) : ∃ a b, op = .call ⟨.builtin .append, #[a, b], #[T, bV]⟩ ∧ ef a = some x ∧ ef b = some y := by
 cases op with
 | call c =>
   obtain ⟨callee, args, argTypes⟩ := c
   simp only [dr] at h
   split at h
   ·split at h <;> simp at h
   ·split at h <;> simp at h
   ·split at h <;> simp at h
   ·(split at h <;> try split at h) <;> simp at h
   ·(split at h <;> try split at h) <;> simp at h
   ·split at h
    ·rename_i a b xb Ad mj sd
     split at h
     ·rename_i cQ jZ aq bD
      simp only [Option.some.injEq, gj.app.injEq] at h
      obtain ⟨rfl, rfl, rfl, rfl⟩ := h
      refine ⟨a, b, ?_, aq, bD⟩
      have a1 : args = #[a, b] := by apply Array.ext'; exact mj
      have bh : argTypes = #[xb, Ad] := by apply Array.ext'; exact sd
      subst a1 bh
      rfl
     ·cases h
    ·cases h
   ·cases h
 | makeFunc fn first cs =>
   cases fn <;> simp only [dr] at h <;> first | (cases h; done) | (split at h <;> simp at h)
 | slice T x dn ao hD =>
   cases hD <;> simp only [dr] at h <;> first | (cases h; done) | (split at h <;> simp at h)
 | _ => simp only [dr] at h <;> first | (cases h; done) | (simp at h; done) | (split at h <;> simp at h)
theorem bZ.alias {F : Nat → Prop} {S : Nat → Nat → Prop} {aF : Nat → Value} {u x : Nat} (h : bZ w0 F0 X F S s aF w) (hu : s u = .hole) (aq : (s x).own = true) (aR : c1 (aF u) = c1 (aF x)) (af : Value.g5 (aF u) = true) :
  bZ w0 F0 X F (gy S u (fun _ => False)) (dz s u (.h x [])) aF w := by
 have eW : dz aF u (aF u) = aF := by funext y; simp only [dz]; split <;> simp_all
 have := h.tS (t := u) (d := .h x []) (v := aF u) rfl (by
  rw [aY]
  intro d ak aA
  simp only [I.sub, Option.some.injEq] at ak
  subst ak
  exact ⟨c1 (aF x), none, rfl, aR, ((p3 aq).2.2.2.2.2 _).2 af⟩)
 rwa [eW] at this
theorem k3.less {F : Nat → Prop} {S a7 : Nat → Nat → Prop} {aF : Nat → Value} {s1 : ax} {v : Value} (bS : ∀ u b, a7 u b → S u b) (bb : av.res = true) (h : k3 w0 X F S s aF w av v) : k3 w0 X F a7 s1 aF w av v := by
 rcases h with ⟨af, ai⟩ | ⟨af, ai, Sn, aN, bk, cc, cF, ct⟩
 ·refine .inl ⟨af, ?_⟩
  cases av <;> first
   | (simp [I.res] at bb; done)
   | (rw [aY]; trivial)
   | (rw [aY] at ai ⊢; exact ai)
 ·exact .inr ⟨af, ai, Sn, aN, bk, cc, fun u b ad hu => cF u b ad (bS u b hu), ct⟩
theorem E5 (bI : C.Ok) (h : Rel w0 F0 X n ρ s a w) {o : Oper} {f : aH} {args : List aH} (cX : dr o.op = some (.call f args)) (ak : k9 n o.dst = true) {K : I → ax → Prop} {L : ax → Prop} {next : Act → World → Prop}
  (hw : Ag C s f args K) (sl : ∀ F S b9 a7 w aP av s1 v, bZ w0 F0 X F S s (fun t => a.tmps.getD t undef) w → K av s1 → av.res = true → bZ w0 F0 X b9 a7 s1 (fun t => a.tmps.getD t undef) aP → k3 w0 X b9 a7 s1 (fun t => a.tmps.getD t undef) aP av v → (∀ b, F b → b9 b ∧ aP.heap[b]? = w.heap[b]?) →
   ∃ s2 et, L (fin s2 o.dst av) ∧ bZ w0 F0 X b9 et s2 (fun t => a.tmps.getD t undef) aP ∧ k3 w0 X b9 et s2 (fun t => a.tmps.getD t undef) aP av v)
  (bl : ∀ az cY aP, L az → Rel w0 F0 X n ρ az cY aP → next cY aP) : o.wp C.P a w next Q := by
 have ou := h
 obtain ⟨jN, eV, iu, F, S, bb⟩ := h
 obtain ⟨g, caps, ps, r, af, gm, ai, aN, bk, cc, cF, ct, fC⟩ := hw
 obtain ⟨dst, op, ty, pos, after, guard⟩ := o
 simp only at cX ak sl
 cases op with
 | call c =>
   obtain ⟨callee, mn, argTypes⟩ := c
   simp only [dr] at cX
   split at cX
   ·split at cX
    ·rename_i xc _ _ RD xs bJ oj
     simp only [Option.some.injEq, gj.call.injEq] at cX
     obtain ⟨rfl, rfl⟩ := cX
     obtain ⟨f1, f2⟩ := gu bb (fun _ => rfl) bJ
     rw [af, aY] at f2
     obtain ⟨arr, f3, f4⟩ := f2
     have sm : execOp a.eval { dst, op := .call { callee := .value xc, args := mn, argTypes }, type := ty, pos, after, guard } = callFunc g ((mn.toList.map a.eval ++ arr.toList).toArray) := by
      have : a.eval xc = .func (.func g) #[] arr := f3
      simp only [execOp, resolve, this, Deferred.ofValue, pure_bind, invoke]
      congr 1
      apply Array.ext'; simp
     unfold Oper.wp
     rw [sm]
     have xd : e2 w F s (fun t => a.tmps.getD t undef) (xs.map (aV s) ++ caps) (mn.toList.map a.eval ++ arr.toList) := Jm (Ab bb (fun _ => rfl) _ _ (sb oj)) f4
     rw [← ai] at xd
     obtain ⟨hS, l2⟩ := Jn xd
     have gz : ∀ d ∈ xs.map (aV s) ++ caps, d.plain = true := by
      intro d ak
      rcases List.mem_append.1 ak with ak | ak
      ·obtain ⟨x, aq, rfl⟩ := List.mem_map.1 ak
       exact H7 s x fun av e => by
        subst e
        have hm := sb oj
        have : some (aH.c av) ∈ xs.map some := List.mem_map.2 ⟨_, aq, rfl⟩
        rw [← hm] at this
        obtain ⟨o, _, cl⟩ := List.mem_map.1 this
        cases o with
        | const v => simp only [ef, Option.map_eq_some_iff] at cl; obtain ⟨c, ay, e⟩ := cl; cases e; exact D_ ay
        | tmp n => simp [ef] at cl
        | func g => simp [ef] at cl
        | global g => simp [ef] at cl
      ·obtain ⟨k, aD⟩ := List.getElem?_of_mem ak
       exact zB gm aD
     have E6 := Rv (C := C) bb (ps := ps) (vs := mn.toList.map a.eval ++ arr.toList) (f := g) (r := r) (by simpa using hS)
      (fun i p v aA aR => ⟨gz p.a (by rw [← ai]; exact List.mem_map.2 ⟨p, List.mem_of_getElem? aA, rfl⟩), l2 i p.a v (by simp [aA]) aR⟩) aN bk cc cF ct
     rcases E6 with ⟨df, ea⟩ | ⟨v, aP, df, b9, a7, ea, gU, i9⟩
     ·rw [df, Oper.upon_enter]
      refine Calls.mono ea ?_
      rintro e aP ⟨v, rfl, b9, a7, cf, cB, fD⟩
      obtain ⟨s2, et, fM, gN, hI⟩ := sl _ _ _ _ _ _ _ _ _ bb fC cF cf cB fD
      exact bl _ _ _ fM (Rel.put jN eV iu gN hI ak)
     ·rw [df, Oper.upon_value]
      obtain ⟨s2, et, fM, gN, hI⟩ := sl _ _ _ _ _ _ _ _ _ bb fC cF ea gU i9
      exact bl _ _ _ fM (Rel.put jN eV iu gN hI ak)
    ·cases cX
   ·split at cX
    ·simp only [Option.map_eq_some_iff] at cX; obtain ⟨_, _, cX⟩ := cX; cases cX
    ·cases cX
   ·split at cX
    ·simp only [Option.map_eq_some_iff] at cX; obtain ⟨_, _, cX⟩ := cX; cases cX
    ·cases cX
   iterate 3
    ·split at cX
     ·split at cX <;> cases cX
     ·cases cX
   ·cases cX
 | makeFunc fn first cs =>
   cases fn <;> simp only [dr] at cX <;> first | (cases cX; done) | (split at cX <;> simp at cX)
 | slice T x dn ao hD =>
   cases hD <;> simp only [dr] at cX <;> first | (cases cX; done) | (split at cX <;> simp at cX)
 | _ => simp only [dr] at cX <;> first | (cases cX; done) | (simp at cX; done) | (split at cX <;> simp at cX)
theorem RE (bI : C.Ok) (h : Rel w0 F0 X n ρ s a w) {o : Oper} {bT : gj} (cX : dr o.op = some bT) (ak : k9 n o.dst = true) {K : ax → Prop} {next : Act → World → Prop}
  (hw : nJ C s bT fun av s1 => K (fin s1 o.dst av)) (bl : ∀ az cY aP, K az → Rel w0 F0 X n ρ az cY aP → next cY aP) : o.wp C.P a w next Q := by
 have ou := h
 obtain ⟨jN, eV, iu, F, S, bb⟩ := h
 have plain : ∀ av s1, b6 C s bT = some (av, s1) → K (fin s1 o.dst av) → o.wp C.P a w next Q := by
  intro av s1 he aD
  obtain ⟨r, aP, v, b9, a7, af, ai, aN, bk⟩ := IW (a := a) bI bb (fun _ => rfl) cX he
  unfold Oper.wp
  rw [af]
  rcases ai with rfl | ⟨rfl, rfl⟩
  ·exact bl _ _ _ aD (Rel.put jN eV iu aN bk ak)
  ·exact bl _ _ _ aD (Rel.put jN eV iu aN bk ak)
 cases bT with
 | shr bT => exact (Rx cX).elim
 | nC T bV x y => exact (RB cX).elim
 | call f args => exact E5 bI ⟨jN, eV, iu, F, S, bb⟩ cX ak (K := fun av s1 => K (fin s1 o.dst av)) hw (fun _ _ _ a7 _ _ _ s1 _ _ ai _ aN bk _ => ⟨s1, a7, ai, aN, bk⟩) bl
 | mi f args u x => exact (Ry cX).elim
 | j6 f args L => exact (Rz cX).elim
 | jJ T x => exact (RA cX).elim
 | _ =>
   obtain ⟨av, s1, he, aD⟩ := hw
   exact plain av s1 he aD
theorem k3.share {F : Nat → Prop} {S : Nat → Nat → Prop} {aF : Nat → Value} {v : Value} (h : bZ w0 F0 X F S s aF w) (aR : k3 w0 X F S s aF w av v) (bs : av.tree = true) (bl : ∀ vs, av ≠ .tuple vs) :
  ∃ b9, bZ w0 F0 X b9 S s aF w ∧ k3 w0 X b9 S s aF w av.share v := by
 obtain ⟨Sn, iN, bw, dP, cj, dV, dX⟩ : ∃ Sn : Nat → Prop, eI av v ∧ aB w F av (c1 v) Sn ∧ (∀ b, Sn b → b < w.heap.size) ∧ (∀ b, Sn b → ¬ F b) ∧ (∀ u b, Sn b → ¬ S u b) ∧ (∀ b, Sn b → X b ∨ w0.heap.size ≤ b) := by
  rcases aR with ⟨af, ai⟩ | ⟨_, ai, Sn, aN, bk, cc, cF, ct⟩
  ·rw [aY.c9 bs] at ai
   exact ⟨fun _ => False, ai.1, ai.2, fun _ h => h.elim, fun _ h => h.elim, fun _ _ h => h.elim, fun _ h => h.elim⟩
  ·exact ⟨Sn, ai, aN, bk, cc, cF, ct⟩
 refine ⟨fun b => F b ∨ Sn b, ?_, .inl ⟨EV av, ?_⟩⟩
 ·exact {
   hv := fun b ad => .inl (h.hv b ad)
   hQ := fun b ad => by
    rcases ad with ad | ad
    ·exact h.hQ b ad
    ·exact .inr (dX b ad)
   gh := fun b ad => ad.elim (h.gh b) (dP b)
   fc := h.fc
   gr := fun t b ad bJ => bJ.elim (h.gr t b ad) (fun ah => dV t b ah ad)
   gi := h.gi
   ek := h.ek
   ee := fun t => aY.frame (fun _ _ => rfl) (fun b ad => .inl ad) (fun _ _ _ => rfl) h.ee _ _ _ (fun _ _ => rfl) (h.ee t)
   old := h.old
   size := h.size
   os := h.os
   tape := h.tape
   output := h.output }
 ·have RF : av.share.tree = true := by cases av <;> first | exact bs | rfl
  rw [aY.c9 RF]
  exact ⟨EX bl iN, aB.shared (fun b ad => .inl ad) av _ Sn (fun b ad => .inr ad) bw⟩
theorem RG {op : Op} {T : TypeId} {x : aH} (h : dr op = some (.dd T x)) : ∃ a, op = .box T a ∧ ef a = some x := by
 cases op with
 | box xb a =>
   simp only [dr, Option.map_eq_some_iff, gj.dd.injEq] at h
   obtain ⟨y, bD, rfl, rfl⟩ := h
   exact ⟨a, rfl, bD⟩
 | _ =>
   exfalso
   unfold dr at h
   split at h <;> (try split at h) <;> (try split at h) <;> (try split at h) <;> (try simp [Option.map_eq_some_iff] at h) <;> contradiction
theorem RH {aP : World} {F b9 : Nat → Prop} {s s1 : ax} {aF : Nat → Value} (bH : ∀ b, F b → b9 b ∧ aP.heap[b]? = w.heap[b]?) : ∀ (n : Nat),
  (∀ (d : I) (v : Value) (S : Nat → Prop), SizeOf.sizeOf d ≤ n → d.fN s = true → d.fN s1 = true → aY w F s aF d v S → aY aP b9 s1 aF d v (fun _ => False)) ∧
  (∀ (ds : List I) (vs : List Value), SizeOf.sizeOf ds ≤ n → I.nI s ds = true → I.nI s1 ds = true → e2 w F s aF ds vs → e2 aP b9 s1 aF ds vs) := by
 intro n
 induction n with
 | zero =>
   refine ⟨fun d v S bY => ?_, fun ds vs bY => ?_⟩
   ·cases d <;> simp at bY <;> omega
   ·cases ds <;> simp at bY <;> omega
 | succ n ih =>
   refine ⟨fun d v S bY cf cB h => ?_, fun ds vs bY cf cB h => ?_⟩
   ·cases d with
    | hole => rw [aY]; trivial
    | h x q =>
      simp only [I.fN, Bool.and_eq_true, List.isEmpty_iff] at cf cB
      obtain ⟨rfl, cf⟩ := cf
      rw [aY] at h ⊢
      obtain ⟨c_, a, gT, hs, h9⟩ := h (s x) (by simp only [I.sub]) (p3 cf).1
      simp only [dy, Option.some.injEq, Prod.mk.injEq, true_and] at gT
      intro d ak _
      simp only [I.sub, Option.some.injEq] at ak
      subst ak
      exact ⟨c1 (aF x), none, by simp only [dy], by rw [hs, ← gT.1], ((p3 cB.2).2.2.2.2.2 _).2 (((p3 cf).2.2.2.2.2 _).1 h9)⟩
    | aA x q => simp [I.fN] at cf
    | ad x k =>
      simp only [I.fN, Bool.not_eq_true'] at cf
      rw [aY] at h ⊢
      obtain ⟨b, cur, e, fr, af, ai, aN, bk⟩ := h cf
      exact fun _ => ⟨b, cur, e, fr, af, (bH b ai).1, (bH b ai).2.trans aN, bk⟩
    | fn f cap =>
      simp only [I.fN] at cf cB
      rw [aY] at h ⊢
      obtain ⟨arr, rfl, ay⟩ := h
      exact ⟨arr, rfl, ih.2 _ _ (by simp at bY; omega) cf cB ay⟩
    | _ =>
      simp only [I.fN] at cf
      have bM := (aY.c9 rfl).1 h
      exact (aY.c9 rfl).2 ⟨bM.1, aB.mono (fun b ad => (bH b ad).1) _ _ _ _ (fun _ h => h) (aB.frame (fun b ad => (bH b ad).2) _ _ _ (fun _ h => h.elim) (aB.plain _ _ _ _ cf bM.2))⟩
   ·cases ds with
    | nil => rw [e2] at h ⊢; exact h
    | cons d ds =>
      simp only [I.nI, Bool.and_eq_true] at cf cB
      rw [e2] at h ⊢
      obtain ⟨v, kh, rfl, af, ai⟩ := h
      simp at bY
      exact ⟨v, kh, rfl, ih.1 _ _ _ (by omega) cf.1 cB.1 af, ih.2 _ _ (by omega) cf.2 cB.2 ai⟩
theorem RI {s : ax} {d : I} (h : d.fN s = true) : d.plain = true := by
 cases d <;> first | rfl | (simpa [I.fN] using h)
theorem bZ.mm {F : Nat → Prop} {aF : Nat → Value} : ∀ (L : List (Nat × I)) (s : ax) (S : Nat → Nat → Prop), bZ w0 F0 X F S s aF w → (∀ p ∈ L, p.2.plain = true ∧ aY w F s aF p.2 (aF p.1) (fun _ => False)) →
  ∃ a7, bZ w0 F0 X F a7 (c5.mm s L) aF w ∧ ∀ u b, a7 u b → S u b := by
 intro L
 induction L with
 | nil => intro s S h _; exact ⟨S, h, fun _ _ h => h⟩
 | cons p L ih =>
   intro s S h sl
   obtain ⟨af, ai⟩ := sl p (by simp)
   have eW : dz aF p.1 (aF p.1) = aF := by funext u; simp only [dz]; split <;> simp_all
   have aN := h.tS (t := p.1) af ai
   rw [eW] at aN
   have ht : ∀ x, x ≠ p.1 → (dz s p.1 p.2 x).tree = true → dz s p.1 p.2 x = s x ∧ aF x = aF x := fun x aq _ => ⟨jB _ _ aq, rfl⟩
   obtain ⟨a7, bo, bR⟩ := ih _ _ aN (fun q dk => ⟨(sl q (by simp [dk])).1, (aY.void (t := p.1) ht (by rw [mc]; exact af) _).1 _ _ _ (Nat.le_refl _) (sl q (by simp [dk])).2⟩)
   refine ⟨a7, bo, fun u b ad => ?_⟩
   have := bR u b ad
   simp only [gy] at this
   split at this
   ·exact this.elim
   ·exact this
theorem E7 {s : ax} : ∀ {L : List (Nat × I)}, k_ s L = true → ∀ p ∈ L, p.2.fN s = true
 | q :: L, af, p, aA => by
   simp only [k_, Bool.and_eq_true] at af
   rcases List.mem_cons.1 aA with rfl | aA
   ·exact af.1
   ·exact E7 af.2 p aA
theorem RJ {s : ax} {us : List Nat} {p : Nat × I} (h : p ∈ jc s us) : p.1 ∈ us ∧ s p.1 = p.2 := by
 obtain ⟨u, hu, rfl⟩ := List.mem_map.1 h
 exact ⟨hu, rfl⟩
theorem RK (bI : C.Ok) (h : Rel w0 F0 X n ρ s a w) {o : Oper} {bT : gj} (cX : oq o.op = bT.base) (ak : k9 n o.dst = true) {K : ax → Prop} {next : Act → World → Prop}
  (hw : nJ C s bT fun av s1 => K (fin s1 o.dst av)) (bl : ∀ az cY aP, K az → Rel w0 F0 X n ρ az cY aP → next cY aP) : o.wp C.P a w next Q := by
 cases bT with
 | shr bT =>
   obtain ⟨av, s1, he, bs, ml, aD⟩ := hw
   rcases ot cX with cX | cX
   ·change bT = .bad at cX
    subst cX; cases he
   obtain ⟨jN, eV, iu, F, S, bb⟩ := h
   obtain ⟨r, aP, v, b9, a7, af, ai, aN, bk⟩ := IW (a := a) bI bb (fun _ => rfl) cX he
   obtain ⟨w8, cJ, eE⟩ := k3.share aN bk bs ml
   unfold Oper.wp
   rw [af]
   rcases ai with rfl | ⟨rfl, rfl⟩
   ·exact bl _ _ _ aD (Rel.put jN eV iu cJ eE ak)
   ·exact bl _ _ _ aD (Rel.put jN eV iu cJ eE ak)
 | bad => obtain ⟨av, s1, he, _⟩ := hw; cases he
 | mi f args u x =>
   obtain ⟨a1, bh, hw⟩ := hw
   rcases ot cX with ad | ad
   ·cases ad
   ·refine E5 bI h ad ak hw ?_ bl
    rintro F S b9 a7 w aP av s1 v iN ⟨bw, dP, cj⟩ dV dX eM _
    have zJ := iN.ee u
    rw [a1, aY] at zJ
    obtain ⟨c_, a0, gT, hs, h9⟩ := zJ (s x) (by simp only [I.sub]) (p3 bh).1
    simp only [dy, Option.some.injEq, Prod.mk.injEq, true_and] at gT
    have RL : ∀ y b, gy a7 u (fun _ => False) y b → a7 y b := by
     intro y b ad
     simp only [gy] at ad
     split at ad
     ·exact ad.elim
     ·exact ad
    exact ⟨_, _, cj, dX.alias bw dP (by rw [hs, ← gT.1]) (((p3 bh).2.2.2.2.2 _).1 h9), eM.less RL dV⟩
 | j6 f args L =>
   obtain ⟨bh, hw⟩ := hw
   rcases ot cX with ad | ad
   ·cases ad
   ·refine E5 bI h ad ak hw ?_ bl
    rintro F S b9 a7 w aP av s1 v iN ⟨bw, cj⟩ dV dX eM gv
    obtain ⟨et, bo, bR⟩ := dX.mm (jc s L) s1 a7 (fun p aA => by
     have df := (RJ aA).2
     have ea := E7 bh p aA
     have gU := E7 bw p aA
     refine ⟨RI ea, (RH gv _).1 _ _ (S p.1) (Nat.le_refl _) ea gU ?_⟩
     have := iN.ee p.1
     rw [df] at this
     exact this)
    exact ⟨_, et, cj, bo, eM.less bR dV⟩
 | jJ T x =>
   obtain ⟨av, s1, he, aD⟩ := hw
   rcases ot cX with ad | ad
   ·cases ad
   ·obtain ⟨cQ, xe, aq⟩ := RG ad
    obtain ⟨jN, eV, iu, F, S, bb⟩ := h
    obtain ⟨dst, op, ty, pos, after, guard⟩ := o
    simp only at xe ak aD
    subst xe
    obtain ⟨r, aP, v, b9, a7, af, ai, aN, bk⟩ : Next C w0 F0 X (fun t => a.tmps.getD t undef) w (execOp a.eval ⟨dst, .box T cQ, ty, pos, after, guard⟩) av s1 := (P1 (T := T) bb (gu bb (fun _ => rfl) aq).2 he).next
    unfold Oper.wp
    rw [af]
    rcases ai with rfl | ⟨rfl, rfl⟩
    ·exact bl _ _ _ aD (Rel.put jN eV iu aN bk ak)
    ·exact bl _ _ _ aD (Rel.put jN eV iu aN bk ak)
 | nC T bV x y =>
   obtain ⟨av, s1, he, aD⟩ := hw
   rcases ot cX with ad | ad
   ·cases ad
   ·obtain ⟨cQ, jZ, xe, aq, bD⟩ := RC ad
    obtain ⟨jN, eV, iu, F, S, bb⟩ := h
    simp only [b6, Option.map_eq_some_iff, Prod.mk.injEq] at he
    obtain ⟨d, gR, rfl, rfl⟩ := he
    obtain ⟨v, aP, b9, a7, af, ai, aN⟩ := QG (ty := o.type) bI bb (gu bb (fun _ => rfl) aq).2 (gu bb (fun _ => rfl) bD).2 gR
    have sm : execOp a.eval o = (do pure (.value (← Builtin.append_ #[T, bV] o.type #[a.eval cQ, a.eval jZ]))) := by
     obtain ⟨dst, op, ty, pos, after, guard⟩ := o
     simp only at xe
     subst xe
     simp [execOp, resolve, invoke, builtin]
    unfold Oper.wp
    rw [sm]
    simp only [Sem.run_bind, af, Result.andThen]
    exact bl _ _ _ aD (Rel.put jN eV iu ai aN ak)
 | _ =>
   rcases ot cX with ad | ad
   ·cases ad
   ·exact RE bI h ad ak hw bl
end
end Go.c5
