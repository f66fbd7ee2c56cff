/- Part of a proof that a law returns true for every input. No condition. -/
import Derived.Test.YtbemmmimelklkaaGreatFwD
import Derived.Laws.Tables
namespace Go.dg
section
variable {C : cn} {w0 w : World} {F0 X F : Nat → Prop} {S : Nat → Nat → Prop} {s s1 : au} {aF : Nat → Value} {av : I}
theorem zb (z : List Value) : ∀ n, (List.range (n * z.length)).map (fun i => z[i % z.length]!) = (List.replicate n z).flatten
 | 0 => by simp
 | n + 1 => by
   rw [Nat.add_mul, Nat.one_mul, List.range_add, List.map_append, zb z n, List.replicate_succ', List.flatten_append]
   congr 1
   simp only [List.map_map, List.flatten_cons, List.flatten_nil, List.append_nil]
   apply List.ext_getElem
   ·simp
   ·intro i ai aj
    have ar : i < z.length := aj
    simp [Nat.mod_eq_of_lt ar, ar]
theorem bl.replicate {d : I} {cs : List Value} (h : ∀ a1, aC w F d cs a1) : ∀ n a1, bl w F (List.replicate n d) (List.replicate n cs).flatten a1
 | 0, a1 => by simp only [List.replicate_zero, List.flatten_nil]; rw [bl]
 | n + 1, a1 => by
   rw [List.replicate_succ, List.replicate_succ, List.flatten_cons, bl]
   exact ⟨cs, _, fun _ => False, fun _ => False, rfl, h _, bl.replicate h n _, fun _ h => h.elim, fun _ h => h.elim, fun _ h => h.elim⟩
def eU (C : cn) (T : TypeId) (l c : I) : Option I :=
 match (C.T T).k, l, c with
 | .slice e, .int .i64 n, .int .i64 m => if n = m ∧ 0 ≤ n ∧ (C.T e).ok = true ∧ (C.T e).zero.wd = (C.T e).sz ∧ (flat (C.T e).zero).isSome = true ∧ (C.T e).sz ≠ 0 ∧ (C.T e).bytes * n ≤ 140737488355328 ∧ n ≤ 9223372036854775807 then
   some (.aw (C.T e).sz (List.replicate n.toNat (C.T e).zero)) else none
 | _, _, _ => none
theorem OH (bA : C.fo) (h : bT w0 F0 X F S s aF w) {T : TypeId} {l c : I} {G9 G_ : Value} (hl : aV w F s aF l G9 (fun _ => False)) (ay : aV w F s aF c G_ (fun _ => False)) (he : eU C T l c = some av) :
  Good C w0 F0 X aF w (Instr.makeSlice T G9 G_) av s := by
 unfold eU at he
 split at he
 ·rename_i e n m aE
  have := px hl; subst this
  have := px ay; subst this
  obtain ⟨Dc, d, Dd, a4, a_, a3, c1, c6, cl, cf⟩ := bA.info (g5 aE (by simp))
  rw [aE] at cf
  have := kU cf; subst this
  split at he
  ·rename_i rl
   obtain ⟨rfl, bd, nO, oP, pB, e3, Ha, Dg⟩ := rl
   simp only [Option.some.injEq] at he; subst he
   obtain ⟨i, De, z, f1, f2, f3, f4, f5, f6, f7⟩ := bA.info nO
   obtain ⟨fj, lf⟩ := Option.isSome_iff_exists.1 pB
   have pC := f5 fj lf
   have jo : ∀ a1, aC w F (C.T e).zero fj a1 := fun a1 => (aC.flat _).1 _ fj a1 (Nat.le_refl _) lf
   have nQ : fj.length = (C.T e).sz := by rw [aC.length _ _ _ (jo (fun _ => False)), oP]
   obtain ⟨n, rfl⟩ := Int.eq_ofNat_of_zero_le bd
   simp only [Int.toNat_natCast]
   have tA : IntKind.i64.wrap (n : Int) = n := by
    rw [IntKind.wrap_i64]; omega
   have tx : ∀ k (w : World), (askRoom k).run C.P w = .ok () w := by
    intro k w
    unfold askRoom
    split <;> rfl
   have pw : ((Array.range (n * (C.T e).sz)).map (fj.toArray[· % fj.toArray.size]!)).toList = (List.replicate n fj).flatten := by
    have := zb fj n
    rw [nQ] at this
    simpa [nQ] using this
   have fy : ¬ (281474976710656 < (i.bytes : Int) * n) := by
    rw [f3]; omega
   have zc : ¬ ((n : Int) < 0) := by omega
   have run : (Instr.makeSlice T (.int .i64 n) (.int .i64 n)).run C.P w = .ok (.slice (some ⟨w.heap.size, 0, none⟩) n n)
     (w.alloc (.cells (if n * (C.T e).sz = 0 then (Array.range (n * (C.T e).sz)).map (fun _ => default) else (Array.range (n * (C.T e).sz)).map (fj.toArray[· % fj.toArray.size]!)) e)) := by
    by_cases ba : n * (C.T e).sz = 0
    ·simp [Instr.makeSlice, run_underlying cl, asInt, asIntOf, rf f1, tA, fy, zc, tx, jU f1, f2, ba, newRow]
    ·simp only [ba, if_false]
     simp [Instr.makeSlice, run_underlying cl, asInt, asIntOf, rf f1, tA, fy, zc, tx, jU f1, f2, ba, newRow, tp f1 f4, pC]
   have kO : (if n * (C.T e).sz = 0 then (Array.range (n * (C.T e).sz)).map (fun _ => (default : Value)) else (Array.range (n * (C.T e).sz)).map (fj.toArray[· % fj.toArray.size]!)).toList = (List.replicate n fj).flatten := by
    split
    ·rename_i ba
     have : n = 0 := by
      rcases Nat.mul_eq_zero.1 ba with h | h
      ·exact h
      ·exact (e3 h).elim
     subst this
     simp
    ·exact pw
   generalize rz : (if n * (C.T e).sz = 0 then (Array.range (n * (C.T e).sz)).map (fun _ => (default : Value)) else (Array.range (n * (C.T e).sz)).map (fj.toArray[· % fj.toArray.size]!)) = cur at run kO
   have lb : (List.replicate n fj).flatten.length = n * (C.T e).sz := by simp [nQ]
   have ig : cur.size = n * (C.T e).sz := by
    have : cur.size = cur.toList.length := by simp
    rw [this, kO, lb]
   have jX := h.vI (aS := w.alloc (.cells cur e)) (sz := (C.T e).sz) (cap := n) (xs := List.replicate n (C.T e).zero) (cur := cur) (e := e) (fr := (0, 0)) (Sn := fun _ => False) rfl rfl rfl rfl
    (fun o _ ⟨_, aj⟩ => absurd aj (Nat.not_lt_zero _)) (by simp) (by unfold maxLen; omega) ig (by intro d al; rw [List.eq_of_mem_replicate al]; exact oP)
    (by rw [kO, List.length_replicate, List.take_of_length_le (by rw [lb]; exact Nat.le_refl _)]; exact bl.replicate jo n _) (fun _ h => h.elim) (fun _ h => h.elim) (fun _ _ h => h.elim) (fun _ h => h.elim)
   rw [List.length_replicate] at jX
   exact ⟨_, _, F, S, run, jX.1, jX.2⟩
  ·cases he
 ·cases he
def m8 (C : cn) (T bN : TypeId) (x y : I) : Option I :=
 match (C.T T).k, (C.T bN).k, x, y with
 | .slice e, .int _, .bg, .int .i64 n => if 0 ≤ n ∧ (C.T e).ok = true ∧ (C.T e).zero.wd = (C.T e).sz ∧ (flat (C.T e).zero).isSome = true ∧ (C.T e).sz ≠ 0 ∧ (C.T e).bytes * n ≤ 140737488355328 ∧ n ≤ 9223372036854775807 then
   some (.aw (C.T e).sz (List.replicate n.toNat (C.T e).zero)) else none
 | _, _, _, _ => none
theorem OI {P : Program} {T bN ty e : TypeId} {k : IntKind} {i : TypeInfo} {z : Value} (bh : P.underlying T = some (.slice e)) (hu : P.underlying bN = some (.int k)) (ar : P.info? e = some i) (ca : i.zero = some z)
  (n : Nat) (ba : n ≠ 0) (ah : i.size ≠ 0) (bd : n ≤ 9223372036854775807) (ae : n * i.bytes ≤ 140737488355328) :
  (Builtin.append_ #[T, bN] ty #[.slice none 0 0, .int .i64 n]).run P w = .ok (.slice (some ⟨w.heap.size, 0, none⟩) n (grownCap w n 0 e))
   (w.drew.alloc (.cells (Builtin.zeroCells z.cells n ++ Builtin.zeroCells z.cells (grownCap w n 0 e - n)) e)) := by
 have tA : IntKind.i64.wrap (n : Int) = n := by rw [IntKind.wrap_i64]; omega
 have zc : ¬ ((n : Int) < 0) := by omega
 have hmul : (n : Int) * (i.bytes : Int) = ((n * i.bytes : Nat) : Int) := by simp
 have fy : ¬ (281474976710656 < (n : Int) * (i.bytes : Int)) := by rw [hmul]; omega
 have jV : ¬ (281474976710656 < Builtin.nextslicecap n 0 * i.bytes) := by
  have : Builtin.nextslicecap n 0 = n := by unfold Builtin.nextslicecap; rw [if_pos (by omega)]
  rw [this]; omega
 have tx : ∀ k (w : World), (askRoom k).run P w = .ok () w := by
  intro k w
  unfold askRoom
  split <;> rfl
 have C_ : ¬ (9223372036854775807 < (n : Int)) := by omega
 have Dj : n * i.size ≠ 0 := Nat.mul_ne_zero ba ah
 simp [Builtin.append_, run_underlying bh, run_underlying hu, jU ar, rf ar, asInt, asIntOf, tA, zc, fy, jV, ba, Question.forced, tx, C_, tp ar ca, newRow, grownCap, Builtin.firstCells]
 intro kS; exact (Dj kS).elim
theorem OJ (bA : C.fo) (h : bT w0 F0 X F S s aF w) {T bN ty : TypeId} {x y : I} {jW jn : Value} (aA : aV w F s aF x jW (fun _ => False)) (bL : aV w F s aF y jn (fun _ => False)) (he : m8 C T bN x y = some av) :
  Good C w0 F0 X aF w (Builtin.append_ #[T, bN] ty #[jW, jn]) av s := by
 unfold m8 at he
 split at he
 ·rename_i e auJ n aE Hb
  have := py aA; subst this
  have := px bL; subst this
  obtain ⟨Dc, d, Dd, a4, a_, a3, c1, c6, cl, cf⟩ := bA.info (g5 aE (by simp))
  rw [aE] at cf
  have := kU cf; subst this
  obtain ⟨auK, auL, auM, zd, ze, Dk, vS, auN, Dl, Hc⟩ := bA.info (g5 Hb (by simp))
  rw [Hb] at Hc
  have := yV Hc; subst this
  split at he
  ·rename_i rl
   obtain ⟨bd, nO, oP, pB, e3, Ha, Dg⟩ := rl
   simp only [Option.some.injEq] at he; subst he
   obtain ⟨i, De, z, f1, f2, f3, f4, f5, f6, f7⟩ := bA.info nO
   obtain ⟨fj, lf⟩ := Option.isSome_iff_exists.1 pB
   have pC := f5 fj lf
   have jo : ∀ a1, aC w F (C.T e).zero fj a1 := fun a1 => (aC.flat _).1 _ fj a1 (Nat.le_refl _) lf
   have nQ : fj.length = (C.T e).sz := by rw [aC.length _ _ _ (jo (fun _ => False)), oP]
   obtain ⟨n, rfl⟩ := Int.eq_ofNat_of_zero_le bd
   simp only [Int.toNat_natCast]
   by_cases ba : n = 0
   ·subst ba
    have run : (Builtin.append_ #[T, bN] ty #[.slice none 0 0, .int .i64 ((0 : Nat) : Int)]).run C.P w = .ok (.slice none 0 0) w := by
     have tA : IntKind.i64.wrap 0 = 0 := by decide
     simp [Builtin.append_, run_underlying cl, run_underlying Dl, jU f1, rf f1, asInt, asIntOf, tA]
    exact ⟨_, w, F, S, run, h, .inr ⟨rfl, rfl, fun _ => False, by simp only [cV, iu]; rw [aC]; exact .inl ⟨rfl, _, rfl⟩, fun _ h => h.elim, fun _ h => h.elim, fun _ _ h => h.elim, fun _ h => h.elim⟩⟩
   ·have run := OI (w := w) (ty := ty) cl Dl f1 f4 n ba (by rw [f2]; exact e3) (by omega) (by
     rw [f3]
     have : ((C.T e).bytes : Int) * (n : Int) = (((C.T e).bytes * n : Nat) : Int) := by simp
     rw [this] at Ha
     rw [Nat.mul_comm]; omega)
    rw [pC] at run
    have vM := grownCap_ge w n 0 e
    have vN := grownCap_le_maxLen w n 0 e (by unfold maxLen; omega)
    have Hd : ∀ m, (Builtin.zeroCells fj.toArray m).toList = (List.replicate m fj).flatten := by
     intro m
     have := zb fj m
     unfold Builtin.zeroCells
     simpa [nQ] using this
    have lb : ∀ m, (List.replicate m fj).flatten.length = m * (C.T e).sz := by intro m; simp [nQ]
    generalize rz : Builtin.zeroCells fj.toArray n ++ Builtin.zeroCells fj.toArray (grownCap w n 0 e - n) = cur at run
    have kO : cur.toList = (List.replicate n fj).flatten ++ (List.replicate (grownCap w n 0 e - n) fj).flatten := by rw [← rz, Array.toList_append, Hd, Hd]
    have ig : cur.size = grownCap w n 0 e * (C.T e).sz := by
     have : cur.size = cur.toList.length := by simp
     rw [this, kO, List.length_append, lb, lb, ← Nat.add_mul]
     congr 1; omega
    have jX := h.vI (aS := w.drew.alloc (.cells cur e)) (sz := (C.T e).sz) (cap := grownCap w n 0 e) (xs := List.replicate n (C.T e).zero) (cur := cur) (e := e) (fr := (0, 0)) (Sn := fun _ => False) rfl rfl rfl rfl
     (fun o _ ⟨_, aj⟩ => absurd aj (Nat.not_lt_zero _)) (by simpa using vM) vN ig (by intro d al; rw [List.eq_of_mem_replicate al]; exact oP)
     (by rw [kO, List.length_replicate, List.take_left' (lb n)]; exact bl.replicate jo n _) (fun _ h => h.elim) (fun _ h => h.elim) (fun _ _ h => h.elim) (fun _ h => h.elim)
    rw [List.length_replicate] at jX
    exact ⟨_, _, F, S, run, jX.1, jX.2⟩
  ·cases he
 ·cases he
def ia (s : au) (f : FuncId) (cs : List aG) : Option I := some (.fn f (cs.map (aR s)))
theorem zf {a : Act} (h : bT w0 F0 X F S s aF w) (eT : ∀ t, aF t = a.tmps.getD t undef) : ∀ (os : List Operand) (xs : List aG), os.map dW = xs.map some → eX w F s aF (xs.map (aR s)) (os.map a.eval)
 | [], [], _ => by simp only [List.map_nil]; rw [eX]
 | [], x :: xs, h => by simp at h
 | o :: os, [], h => by simp at h
 | o :: os, x :: xs, bB => by
   simp only [List.map_cons, List.cons.injEq] at bB ⊢
   rw [eX]
   exact ⟨_, _, rfl, (gn h eT bB.1).2, zf h eT os xs bB.2⟩
theorem He : ∀ (vs : List Value) (k off : Nat) (A : Array Value) (l m r : List Value), A.toList = l ++ (m ++ r) → l.length = off + k → m.length = vs.length →
  ((vs.zipIdx k).foldl (fun cs (x : Value × Nat) => cs.setIfInBounds (off + x.2) x.1) A).toList = l ++ (vs ++ r)
 | [], k, off, A, l, m, r, iN, hl, hm => by
   have : m = [] := by simpa using hm
   subst this
   simpa using iN
 | v :: vs, k, off, A, l, m, r, iN, hl, hm => by
   obtain ⟨x, m, rfl⟩ : ∃ x hX, m = x :: hX := by
    cases m with
    | nil => simp at hm
    | cons x m => exact ⟨x, m, rfl⟩
   rw [List.zipIdx_cons, List.foldl_cons]
   have := He vs (k + 1) off (A.setIfInBounds (off + k) v) (l ++ [v]) m r (by
    rw [Array.toList_setIfInBounds, iN, ← hl, List.set_append_right _ _ (Nat.le_refl _)]
    simp) (by simp; omega) (by simpa using hm)
   simpa using this
def kC (os : List (Option Nat)) (a : I) : I := os.foldl (fun a o => kg o a) a
def eE (place : Nat → Option (Nat × Nat)) : au → List I → List (Option Nat) → List (Nat × I) → Option (List I × au)
 | s, e9, _, [] => some (e9, s)
 | s, e9, os, (k, a) :: r => match cT s (kC os a), place k, e9[k]? with
   | some (d, s1), some (off, n), some z => match d with
     | .tuple _ => none
     | d => if d.wd = n ∧ z.wd = n ∧ I.ev (e9.take k) = off then eE place s1 (e9.set k d) (os ++ [(kC os a).owner]) r else none
   | _, _, _ => none
def m9 (w : World) (F : Nat → Prop) (s : au) (aF : Nat → Value) : List (Nat × I) → List (Nat × Value) → Prop
 | [], [] => True
 | (k, a) :: r, (dd, v) :: iz => k = dd ∧ a.plain = true ∧ aV w F s aF a v (fun _ => False) ∧ m9 w F s aF r iz
 | _, _ => False
theorem OK (x : Nat) : ∀ d : I, d.plain = true → (cc x d).plain = true
 | .h y q, _ => by simp only [cc]; split <;> (try split) <;> rfl
 | .ax y q, _ => by simp only [cc]; split <;> rfl
 | .ae y q, _ => rfl
 | .fn f c, _ => by simp only [cc]; rfl
 | .hole, h => h
 | .bool _, h => h
 | .fi, h => h
 | .int _ _, h => h
 | .str _, h => h
 | .dC, h => h
 | .bg, h => h
 | .slice _, h => h
 | .aw _ _, h => h
 | .ref _, h => h
 | .a8 _, h => h
 | .agg _, h => h
 | .tuple _, h => h
theorem OL (o : Option Nat) (d : I) (h : d.plain = true) : (kg o d).plain = true := by
 cases o with
 | none => exact h
 | some x => exact OK x d h
theorem m9.cc {w : World} {F : Nat → Prop} {s s1 : au} {aF : Nat → Value} {o : Option Nat} (ax : ∀ (bE : I) (gC : Value) (a1 : Nat → Prop), aV w F s aF bE gC a1 → aV w F s1 aF (kg o bE) gC a1) :
  ∀ (r : List (Nat × I)) (iz : List (Nat × Value)), m9 w F s aF r iz → m9 w F s1 aF (r.map fun p => (p.1, kg o p.2)) iz
 | [], [], _ => trivial
 | (k, a) :: r, (dd, v) :: iz, h => by
   obtain ⟨ai, aj, aP, bb⟩ := h
   exact ⟨ai, OL _ _ aj, ax _ _ _ aP, m9.cc ax r iz bb⟩
 | [], _ :: _, h => h.elim
 | _ :: _, [], h => h.elim
theorem Dm {place : Nat → Option (Nat × Nat)} : ∀ (ps : List (Nat × I)) (vs : List (Nat × Value)) (os : List (Option Nat)) (s : au) (S : Nat → Nat → Prop) (e9 : List I) (A : Array Value) (hF : Nat → Prop),
  bT w0 F0 X F S s aF w → m9 w F s aF (ps.map fun p => (p.1, kC os p.2)) vs → bl w F e9 A.toList hF → (∀ b, hF b → b < w.heap.size) → (∀ b, hF b → ¬ F b) → (∀ u b, hF b → ¬ S u b) → (∀ b, hF b → X b ∨ w0.heap.size ≤ b) →
  ∀ ds s1, eE place s e9 os ps = some (ds, s1) → ∃ lE ct gK, Instr.fill place A vs = some lE ∧ bT w0 F0 X F ct s1 aF w ∧ bl w F ds lE.toList gK ∧ (∀ b, gK b → b < w.heap.size) ∧ (∀ b, gK b → ¬ F b) ∧ (∀ u b, gK b → ¬ ct u b) ∧
    (∀ b, gK b → X b ∨ w0.heap.size ≤ b) ∧ ds.length = e9.length ∧ I.ev ds = I.ev e9 ∧ (∀ n, (∀ d ∈ e9, d.wd = n) → ∀ d ∈ ds, d.wd = n)
 | [], [], os, s, S, e9, A, hF, h, _, ai, aj, aP, bb, b5, ds, s1, he => by
   simp only [eE, Option.some.injEq, Prod.mk.injEq] at he
   obtain ⟨rfl, rfl⟩ := he
   exact ⟨A, S, hF, rfl, h, ai, aj, aP, bb, b5, rfl, rfl, fun _ h => h⟩
 | (k, a) :: ps, (dd, v) :: vs, os, s, S, e9, A, hF, h, ax, ai, aj, aP, bb, b5, ds, s1, he => by
   obtain ⟨rfl, kD, nH, vT⟩ := ax
   simp only [eE] at he
   split at he
   ·rename_i d tB off n z bh fV ca
    have key : ∀ d : I, (∀ aB, d ≠ .tuple aB) → cT s (kC os a) = some (d, tB) → (if d.wd = n ∧ z.wd = n ∧ I.ev (e9.take k) = off then eE place tB (e9.set k d) (os ++ [(kC os a).owner]) ps else none) = some (ds, s1) →
      ∃ lE ct gK, Instr.fill place A ((k, v) :: vs) = some lE ∧ bT w0 F0 X F ct s1 aF w ∧ bl w F ds lE.toList gK ∧ (∀ b, gK b → b < w.heap.size) ∧ (∀ b, gK b → ¬ F b) ∧ (∀ u b, gK b → ¬ ct u b) ∧
      (∀ b, gK b → X b ∨ w0.heap.size ≤ b) ∧ ds.length = e9.length ∧ I.ev ds = I.ev e9 ∧ (∀ n, (∀ d ∈ e9, d.wd = n) → ∀ d ∈ ds, d.wd = n) := by
     intro d pv bh he
     split at he
     ·rename_i ay
      obtain ⟨mD, lY, Hf⟩ := ay
      obtain ⟨ct, hG, bc, bG, Sn, cB, eC, fH, h9, iL, ld, vQ, y9⟩ := qc h kD nH bh
      obtain ⟨cv, gk, cE, Sx, kd, iN, h5, gL, hr, h6, hd, lV⟩ := bl.pick e9 _ _ k z ai ca
      have pw := y3 bG pv
      have na := aC.length _ _ _ cB
      have Hg := aC.length _ _ _ hd
      have qg := lV w d (cV v) Sn (fun _ _ => rfl) (fun _ _ => rfl) cB (fun b OM ON => by obtain ⟨u, hu⟩ := vQ b OM; exact bb u b (gL b ON) hu)
      have Hh := He (cV v) 0 off A cv gk cE iN (by rw [h5, Hf]; rfl) (by rw [Hg, na, mD, lY])
      generalize vU : ((cV v).zipIdx 0).foldl (fun cs (x : Value × Nat) => cs.setIfInBounds (off + x.2) x.1) A = Dn at Hh
      obtain ⟨lE, el, gK, fC, gI, hH, ky, l0, ch, nK, eM, Dp, zg⟩ := Dm (place := place) ps vs (os ++ [(kC os a).owner]) tB ct (e9.set k d) Dn (fun b => Sx b ∨ Sn b) hG (by have := m9.cc y9 _ _ vT; simpa [kC, List.foldl_append, Function.comp_def] using this) (by rw [Hh]; exact qg)
       (by rintro b (ae | ae); exact aj b (gL b ae); exact eC b ae) (by rintro b (ae | ae); exact aP b (gL b ae); exact fH b ae)
       (by rintro u b (ae | ae); exact fun hu => bb u b (gL b ae) (ld u b hu); exact h9 u b ae) (by rintro b (ae | ae); exact b5 b (gL b ae); exact iL b ae) ds s1 he
      refine ⟨lE, el, gK, ?_, gI, hH, ky, l0, ch, nK, by rw [eM]; simp, by rw [Dp]; exact CD _ _ _ _ ca (by rw [mD, lY]), ?_⟩
      ·have Dq : off + n ≤ A.size := by
        have : A.size = A.toList.length := by simp
        rw [this, iN]; simp [h5, Hf, Hg, lY]
       simp only [Instr.fill, fV, pw, List.size_toArray, na, mD]
       have m1 : ¬ (n ≠ n ∨ A.size < off + n) := by omega
       have OO : (cV v).toArray.zipIdx.foldl (fun cs (x : Value × Nat) => cs.setIfInBounds (off + x.2) x.1) A = Dn := by
        rw [← vU, ← Array.foldl_toList]; simp
       simp only [ne_eq, not_true_eq_false, decide_false, Bool.false_or, decide_eq_true_eq, gt_iff_lt]
       rw [if_neg (by simp; omega)]
       rw [show (cV v).toArray.zipIdx.foldl (fun cs x => match x with | (c, j) => cs.setIfInBounds (off + j) c) A = Dn from OO]
       exact fC
      ·intro Dr vV
       refine zg Dr (CE vV ?_)
       rw [mD, ← lY]; exact vV z (List.mem_of_getElem? ca)
     ·cases he
    split at he
    ·cases he
    ·rename_i pv
     exact key _ (fun aB e => pv aB e) bh he
   ·cases he
 | [], _ :: _, _, _, _, _, _, _, _, ax, _, _, _, _, _, _, _, _ => ax.elim
 | _ :: _, [], _, _, _, _, _, _, _, ax, _, _, _, _, _, _, _, _ => ax.elim
def fX (C : cn) (s : au) (T : TypeId) (ps : List (Nat × I)) : Option (I × au) :=
 match (C.T T).k, (C.T T).zero with
 | .struct aB, .agg e9 => if (flat (.agg e9)).isSome = true ∧ (∀ f ∈ aB, (C.T f.1).ok = true) then
   (match eE (fun k => (aB[k]?).map fun f => (f.2, (C.T f.1).sz)) s e9 [] ps with
   | some (ds, s1) => some (.agg ds, s1)
   | none => none) else none
 | _, _ => none
def eh (C : cn) (s : au) (T : TypeId) (n : Nat) (ps : List (Nat × I)) : Option (I × au) :=
 match (C.T T).k with
 | .slice e => if (C.T e).ok = true ∧ (C.T e).zero.wd = (C.T e).sz ∧ (flat (C.T e).zero).isSome = true ∧ (C.T e).sz ≠ 0 ∧ n * (C.T e).sz ≤ 16777216 then
   (match eE (fun k => some (k * (C.T e).sz, (C.T e).sz)) s (List.replicate n (C.T e).zero) [] ps with
   | some (ds, s1) => some (.aw (C.T e).sz ds, s1)
   | none => none) else none
 | _ => none
theorem OP (bA : C.fo) : ∀ (gs : List Field), (∀ g ∈ gs, (C.T g.type).ok = true) →
  gs.mapM (fun f => (C.P.info? f.type).map fun i => (f.offset, i.size)) = some (gs.map fun g => (g.offset, (C.T g.type).sz)) := by
 intro gs
 induction gs with
 | nil => intro _; simp
 | cons g gs ih =>
   intro b6
   obtain ⟨i, d, z, f1, f2, f3, f4, f5, f6, f7⟩ := bA.info (b6 g (by simp))
   have := ih (fun g hI => b6 g (by simp [hI]))
   simp [List.mapM_cons, f1, f2, this]
theorem OQ (bA : C.fo) (h : bT w0 F0 X F S s aF w) {T : TypeId} {ps : List (Nat × I)} {vs : List (Nat × Value)} (ax : m9 w F s aF ps vs) (he : fX C s T ps = some (av, s1)) :
  Good C w0 F0 X aF w (Instr.build T vs.toArray) av s1 := by
 unfold fX at he
 split at he
 ·rename_i aB e9 aE ca
  split at he
  ·rename_i ay
   obtain ⟨pB, OR⟩ := ay
   split at he
   ·rename_i ds s2 lb
    simp only [Option.some.injEq, Prod.mk.injEq] at he
    obtain ⟨rfl, rfl⟩ := he
    obtain ⟨i, d, z, a4, a_, a3, c1, c6, cl, cf⟩ := bA.info (g5 aE (by simp))
    rw [aE] at cf
    obtain ⟨gs, rfl, Hi⟩ := CX cf
    obtain ⟨fj, lf⟩ := Option.isSome_iff_exists.1 pB
    have pC := c6 fj (by rw [ca]; exact lf)
    have jo : bl w F e9 fj.toArray.toList (fun _ => False) := by
     have := (aC.flat (w := w) (F := F) _).1 (.agg e9) fj (fun _ => False) (Nat.le_refl _) lf
     rw [aC] at this
     simpa using this
    have eQ : m9 w F s aF (ps.map fun p => (p.1, kC [] p.2)) vs := by simpa [kC] using ax
    obtain ⟨lE, ct, gK, fC, gI, hH, ky, l0, ch, nK, eM, Dp, zg⟩ := Dm ps vs [] s S e9 fj.toArray (fun _ => False) h eQ jo (fun _ h => h.elim) (fun _ h => h.elim) (fun _ _ h => h.elim) (fun _ h => h.elim) ds s2 lb
    have fV := OP bA gs.toList (fun g b6 => OR (g.type, g.offset) (by rw [← Hi]; exact List.mem_map_of_mem b6))
    have OS : (fun (k : Nat) => (aB[k]?).map fun (f : TypeId × Nat) => (f.2, (C.T f.1).sz)) = fun (k : Nat) => ((gs.toList.map fun g => (g.offset, (C.T g.type).sz)).toArray)[k]? := by
     funext k
     rw [← Hi]
     simp only [List.getElem?_map, List.getElem?_toArray, Option.map_map]
     rfl
    rw [OS] at fC
    refine ⟨.agg lE, w, F, ct, run_build w T vs.toArray lE ?_, gI, .inr ⟨rfl, ⟨_, rfl⟩, gK, by simp only [cV, iu]; rw [aC]; exact hH, ky, l0, ch, nK⟩⟩
    unfold Program.built
    simp only [a4, cl, c1, fV, pC]
    exact fC
   ·cases he
  ·cases he
 ·cases he
theorem OT (bA : C.fo) (h : bT w0 F0 X F S s aF w) {T : TypeId} {n : Nat} {ps : List (Nat × I)} {vs : List (Nat × Value)} (ax : m9 w F s aF ps vs) (he : eh C s T n ps = some (av, s1)) :
  Good C w0 F0 X aF w (Instr.buildSlice T n vs.toArray) av s1 := by
 unfold eh at he
 split at he
 ·rename_i e aE
  split at he
  ·rename_i ay
   obtain ⟨nO, oP, pB, e3, auO⟩ := ay
   split at he
   ·rename_i ds s2 lb
    simp only [Option.some.injEq, Prod.mk.injEq] at he
    obtain ⟨rfl, rfl⟩ := he
    obtain ⟨Dc, d, Dd, a4, a_, a3, c1, c6, cl, cf⟩ := bA.info (g5 aE (by simp))
    rw [aE] at cf
    have := kU cf; subst this
    obtain ⟨i, De, z, f1, f2, f3, f4, f5, f6, f7⟩ := bA.info nO
    obtain ⟨fj, lf⟩ := Option.isSome_iff_exists.1 pB
    have pC := f5 fj lf
    have jo : ∀ a1, aC w F (C.T e).zero fj a1 := fun a1 => (aC.flat _).1 _ fj a1 (Nat.le_refl _) lf
    have nQ : fj.length = (C.T e).sz := by rw [aC.length _ _ _ (jo (fun _ => False)), oP]
    generalize iN : ((Array.range (n * (C.T e).sz)).map ((if n * (C.T e).sz = 0 then #[] else fj.toArray)[· % (if n * (C.T e).sz = 0 then (#[] : Array Value) else fj.toArray).size]!)) = A
    have Dq : A.toList = (List.replicate n fj).flatten := by
     rw [← iN]
     by_cases ba : n * (C.T e).sz = 0
     ·have : n = 0 := by
       rcases Nat.mul_eq_zero.1 ba with h | h
       ·exact h
       ·exact (e3 h).elim
      subst this
      simp
     ·simp only [ba, if_false]
      have := zb fj n
      rw [nQ] at this
      simpa [nQ] using this
    have eQ : m9 w F s aF (ps.map fun p => (p.1, kC [] p.2)) vs := by simpa [kC] using ax
    obtain ⟨lE, ct, gK, fC, gI, hH, ky, l0, ch, nK, eM, Dp, zg⟩ := Dm ps vs [] s S (List.replicate n (C.T e).zero) A (fun _ => False) h eQ (by rw [Dq]; exact bl.replicate jo n _) (fun _ h => h.elim) (fun _ h => h.elim) (fun _ _ h => h.elim) (fun _ h => h.elim) ds s2 lb
    have hlen : ds.length = n := by rw [eM]; simp
    have Hj := zg (C.T e).sz (by intro d al; rw [List.eq_of_mem_replicate al]; exact oP)
    have OU : lE.toList.length = n * (C.T e).sz := by rw [bl.rv hH Hj, hlen]
    have OV : lE.size = n * (C.T e).sz := by rw [← OU]; simp
    have auP : n ≤ 16777216 := by
     have : n * 1 ≤ n * (C.T e).sz := Nat.mul_le_mul_left _ (by omega)
     omega
    have jX := gI.vI (aS := w.alloc (.cells lE e)) (sz := (C.T e).sz) (cap := n) (xs := ds) (cur := lE) (e := e) (fr := (0, 0)) (Sn := gK) rfl rfl rfl rfl
     (fun o _ ⟨_, aj⟩ => absurd aj (Nat.not_lt_zero _)) (by omega) (by unfold maxLen; omega) OV Hj (by rw [hlen, List.take_of_length_le (by omega)]; exact hH) ky l0 ch nK
    rw [hlen] at jX
    refine ⟨_, _, F, ct, ?_, jX.1, jX.2⟩
    by_cases ba : n * (C.T e).sz = 0
    ·simp only [ba, if_true] at iN
     have tC : (Array.map (fun _ => (default : Value)) (Array.range 0)) = A := by
      have : n = 0 := by
       rcases Nat.mul_eq_zero.1 ba with h | h
       ·exact h
       ·exact (e3 h).elim
      apply Array.ext'
      rw [Dq, this]
      simp
     simp [Instr.buildSlice, run_underlying cl, jU f1, f2, ba, newRow]
     rw [tC, fC]
     simp
    ·simp only [ba, if_false] at iN
     have m1 : ¬ (16777216 < n * (C.T e).sz) := by omega
     simp [Instr.buildSlice, run_underlying cl, jU f1, f2, ba, m1, tp f1 f4, pC, newRow]
     have tC : (Array.map (fun x => fj[x % fj.length]?.getD default) (Array.range (n * (C.T e).sz))) = A := by
      rw [← iN]; simp
     rw [tC, fC]
     simp
   ·cases he
  ·cases he
 ·cases he
end
inductive fZ where
 | ad (x : aG)
 | ag (x : aG)
 | pick (c a b : aG)
 | ey (T : TypeId)
 | c7 (T : TypeId) (x : aG)
 | fX (T : TypeId) (ps : List (Nat × aG))
 | eh (T : TypeId) (n : Nat) (ps : List (Nat × aG))
 | aD (T : TypeId) (x : aG)
 | cC (T : TypeId) (x y : aG)
 | dP (x : aG)
 | aq (op : BinOp) (T : TypeId) (x y : aG)
 | un (op : UnOp) (x : aG)
 | fW (A B : TypeId) (x : aG)
 | ia (f : FuncId) (cs : List aG)
 | eU (T : TypeId) (l c : aG)
 | fA (T : TypeId) (x : aG) (de ar : Option aG)
 | aU (T : TypeId) (x : aG) (k : Nat)
 | bK (T : TypeId) (x i : aG)
 | idx (T : TypeId) (x i : aG)
 | ex (x : aG) (k : Nat)
 | call (f : aG) (args : List aG)
 | len (T : TypeId) (x : aG)
 | app (T bN : TypeId) (x y : aG)
 | shr (bM : fZ)
 | m8 (T bN : TypeId) (x y : aG)
 | cap (T : TypeId) (x : aG)
 | oS (hE : Bool) (x y : aG)
 | bad
 | l3 (f : aG) (args : List aG) (u x : Nat)
 | j1 (f : aG) (args : List aG) (us : List Nat)
 | jz (T : TypeId) (x : aG)
def fZ.base : fZ → fZ
 | .shr bM => bM
 | .m8 T bN x y => .app T bN x y
 | .l3 f args _ _ => .call f args
 | .j1 f args _ => .call f args
 | .jz T x => .c7 T x
 | bM => bM
def nR : List Operand → Option (List aG)
 | [] => some []
 | o :: os => match dW o, nR os with
   | some x, some xs => some (x :: xs)
   | _, _ => none
def tD : List (Nat × Operand) → Option (List (Nat × aG))
 | [] => some []
 | (k, o) :: os => match dW o, tD os with
   | some x, some xs => some ((k, x) :: xs)
   | _, _ => none
def vW : Option Operand → Option (Option aG)
 | none => some none
 | some o => (dW o).map some
def di : Op → Option fZ
 | .move x => (dW x).map .ad
 | .assign x => (dW x).map .ag
 | .pick c a b => match dW c, dW a, dW b with
   | some c, some a, some b => some (.pick c a b)
   | _, _, _ => none
 | .alloc T => some (.ey T)
 | .box T x => (dW x).map (.c7 T)
 | .build T ps => (tD ps.toList).map (.fX T)
 | .buildSlice T n ps => (tD ps.toList).map (.eh T n)
 | .load T x => (dW x).map (.aD T)
 | .store T x y => match dW x, dW y with
   | some x, some y => some (.cC T x y)
   | _, _ => none
 | .nilCheck x => (dW x).map .dP
 | .binOp op T x y _ => match dW x, dW y with
   | some x, some y => some (.aq op T x y)
   | _, _ => none
 | .unOp op _ x => (dW x).map (.un op)
 | .convert A B x => (dW x).map (.fW A B)
 | .makeFunc (.func f) first cs => if first.isEmpty then (nR cs.toList).map (.ia f) else none
 | .makeSlice T l c => match dW l, dW c with
   | some l, some c => some (.eU T l c)
   | _, _ => none
 | .slice T x de ar none => match dW x, vW de, vW ar with
   | some x, some de, some ar => some (.fA T x de ar)
   | _, _, _ => none
 | .fieldAddr T x k => (dW x).map fun x => .aU T x k
 | .indexAddr T x i => match dW x, dW i with
   | some x, some i => some (.bK T x i)
   | _, _ => none
 | .index T x i => match dW x, dW i with
   | some x, some i => some (.idx T x i)
   | _, _ => none
 | .extract x k => (dW x).map fun x => .ex x k
 | .call c => match c.callee with
   | .value f => match dW f, nR c.args.toList with
     | some f, some xs => some (.call f xs)
     | _, _ => none
   | .builtin .len => match c.args.toList, c.argTypes.toList with
     | [x], [T] => (dW x).map (.len T)
     | _, _ => none
   | .builtin .cap => match c.args.toList, c.argTypes.toList with
     | [x], [T] => (dW x).map (.cap T)
     | _, _ => none
   | .builtin .min => match c.args.toList with
     | [x, y] => match dW x, dW y with
       | some x, some y => some (.oS false x y)
       | _, _ => none
     | _ => none
   | .builtin .max => match c.args.toList with
     | [x, y] => match dW x, dW y with
       | some x, some y => some (.oS true x y)
       | _, _ => none
     | _ => none
   | .builtin .append => match c.args.toList, c.argTypes.toList with
     | [x, y], [T, bN] => match dW x, dW y with
       | some x, some y => some (.app T bN x y)
       | _, _ => none
     | _, _ => none
   | _ => none
 | _ => none
def oS (hE : Bool) : I → I → Option I
 | .str a, .str b => some (.str (yI hE a b))
 | _, _ => none
def bU (C : cn) (s : au) : fZ → Option (I × au)
 | .ad x => some (aR s x, s)
 | .ag x => match aR s x with
   | .h y q => cT s (.h y q)
   | d => some (d, s)
 | .pick c a b => match aR s c with
   | .bool fU => some (if fU then aR s a else aR s b, s)
   | _ => none
 | .ey T => (ey C T).map fun d => (d, s)
 | .c7 _ x => c7 s (aR s x)
 | .fX T ps => fX C s T (ps.map fun p => (p.1, aR s p.2))
 | .eh T n ps => eh C s T n (ps.map fun p => (p.1, aR s p.2))
 | .aD T x => (aD C s T (aR s x)).map fun d => (d, s)
 | .cC T x y => (cC C s T (aR s x) (aR s y)).map fun s1 => (.hole, s1)
 | .dP x => (dP s (aR s x)).map fun d => (d, s)
 | .aq op T x y => (aq C s op T (aR s x) (aR s y)).map fun d => (d, s)
 | .un op x => (un op (aR s x)).map fun d => (d, s)
 | .fW A B x => (fW C s A B (aR s x)).map fun d => (d, s)
 | .ia f cs => some (.fn f (cs.map (aR s)), s)
 | .eU T l c => (eU C T (aR s l) (aR s c)).map fun d => (d, s)
 | .fA T x de ar => fA C s T (aR s x) (de.map (aR s)) (ar.map (aR s))
 | .aU T x k => (aU C s T (aR s x) k).map fun d => (d, s)
 | .bK T x i => (bK C s T (aR s x) (aR s i)).map fun d => (d, s)
 | .idx T x i => (idx C T (aR s x) (aR s i)).map fun d => (d, s)
 | .ex x k => (ex s (aR s x) k).map fun d => (d, s)
 | .call _ _ => none
 | .len T x => (lB C s T (aR s x)).map fun d => (d, s)
 | .app T bN x y => lD C s T bN (aR s x) (aR s y)
 | .shr _ => none
 | .l3 _ _ _ _ => none
 | .j1 _ _ _ => none
 | .jz _ x => jz s (aR s x)
 | .m8 T bN x y => (m8 C T bN (aR s x) (aR s y)).map fun d => (d, s)
 | .cap T x => match (C.T T).k, aR s x with
   | .slice _, .bg => some (.int .i64 0, s)
   | _, _ => none
 | .oS hE x y => (oS hE (aR s x) (aR s y)).map fun d => (d, s)
 | .bad => none
section
variable {C : cn} {w0 w : World} {F0 X F : Nat → Prop} {S : Nat → Nat → Prop} {s s1 : au} {a : Act} {av : I}
theorem rA : ∀ {os : List Operand} {xs : List aG}, nR os = some xs → os.map dW = xs.map some
 | [], xs, h => by simp [nR] at h; subst h; rfl
 | o :: os, xs, h => by
   simp only [nR] at h
   split at h
   ·rename_i x Hk ai aj
    simp at h; subst h
    simp [ai, rA aj]
   ·cases h
theorem Ds {aF : Nat → Value} (h : bT w0 F0 X F S s aF w) (eT : ∀ t, aF t = a.tmps.getD t undef) : ∀ {ps : List (Nat × Operand)} {xs : List (Nat × aG)}, tD ps = some xs →
  m9 w F s aF (xs.map fun p => (p.1, aR s p.2)) (ps.map fun p => (p.1, a.eval p.2))
 | [], xs, h => by simp [tD] at h; subst h; trivial
 | (k, o) :: ps, xs, bB => by
   simp only [tD] at bB
   split at bB
   ·rename_i x Hk ai aj
    simp at bB; subst bB
    obtain ⟨bc, bG⟩ := gn h eT ai
    exact ⟨rfl, bc, bG, Ds h eT aj⟩
   ·cases bB
def Next (C : cn) (w0 : World) (F0 X : Nat → Prop) (aF : Nat → Value) (w : World) (m : Sem Go.Next) (av : I) (s1 : au) : Prop :=
 ∃ r aS v bV a1, m.run C.P w = .ok r aS ∧ (r = .value v ∨ r = .skip ∧ v = undef) ∧ bT w0 F0 X bV a1 s1 aF aS ∧ kT w0 X bV a1 s1 aF aS av v
theorem Good.next {aF : Nat → Value} {m : Sem Value} (h : Good C w0 F0 X aF w m av s1) : Next C w0 F0 X aF w (do pure (.value (← m))) av s1 := by
 obtain ⟨v, aS, bV, a1, ai, aj, aP⟩ := h
 exact ⟨.value v, aS, v, bV, a1, by simp [ai], .inl rfl, aj, aP⟩
theorem Hl {aF : Nat → Value} (h : bT w0 F0 X F S s aF w) {hE : Bool} {x y : I} {jW jn : Value} {m : Sem Go.Next} (ai : aV w F s aF x jW (fun _ => False)) (aj : aV w F s aF y jn (fun _ => False))
  (he : (oS hE x y).map (fun d => (d, s)) = some (av, s1)) (hm : m = (do pure (.value (← if hE then Builtin.max2 jW jn else Builtin.min2 jW jn)))) : Next C w0 F0 X aF w m av s1 := by
 simp only [Option.map_eq_some_iff, Prod.mk.injEq] at he
 obtain ⟨d, al, rfl, rfl⟩ := he
 unfold oS at al
 split at al
 ·rename_i a b
  simp only [Option.some.injEq] at al; subst al
  have a4 := oL ai
  have a_ := oL aj
  subst a4 a_
  subst hm
  refine ⟨.value (.string ⟨⟨yI hE a b⟩⟩), w, _, F, S, ?_, .inl rfl, h, .inl ⟨rfl, nL _⟩⟩
  cases hE
  ·simp only [Builtin.min2, Op.stringOp, C4, yI, Bool.false_eq_true, if_false]
   cases ae : (Op.bytesLess a b || a == b) <;> simp [asBool]
  ·simp only [Builtin.max2, Op.stringOp, C4, yI, if_true]
   cases ae : Op.bytesLess a b <;> simp [asBool]
 ·cases al
theorem Hm (bA : C.fo) {aF : Nat → Value} (h : bT w0 F0 X F S s aF w) (eT : ∀ t, aF t = a.tmps.getD t undef) {o : Oper} {bM : fZ} (ah : di o.op = some bM) (he : bU C s bM = some (av, s1)) :
  Next C w0 F0 X aF w (execOp a.eval o) av s1 := by
 obtain ⟨dst, op, ty, pos, after, guard⟩ := o
 simp only at ah
 cases op with
 | move x =>
   simp only [di, Option.map_eq_some_iff] at ah
   obtain ⟨cz, aA, rfl⟩ := ah
   obtain ⟨bc, bG⟩ := gn h eT aA
   simp only [bU, Option.some.injEq, Prod.mk.injEq] at he
   obtain ⟨rfl, rfl⟩ := he
   exact ⟨_, w, _, F, S, rfl, .inl rfl, h, .inl ⟨bc, bG⟩⟩
 | assign x =>
   simp only [di, Option.map_eq_some_iff] at ah
   obtain ⟨cz, aA, rfl⟩ := ah
   obtain ⟨bc, bG⟩ := gn h eT aA
   simp only [bU] at he
   split at he
   ·rename_i y q bL
    rw [bL] at bc bG
    obtain ⟨ct, k0, b8, cu, Sn, fB, eP, gr, dG, jZ, _⟩ := qc h bc bG he
    exact ⟨_, w, _, F, ct, rfl, .inl rfl, k0, .inr ⟨b8, cu, Sn, fB, eP, gr, dG, jZ⟩⟩
   ·simp only [Option.some.injEq, Prod.mk.injEq] at he
    obtain ⟨rfl, rfl⟩ := he
    exact ⟨_, w, _, F, S, rfl, .inl rfl, h, .inl ⟨bc, bG⟩⟩
 | pick c x y =>
   simp only [di] at ah
   split at ah
   ·rename_i vX cz jS ay aA bL
    simp only [Option.some.injEq] at ah; subst ah
    simp only [bU] at he
    split at he
    ·rename_i b ae
     simp only [Option.some.injEq, Prod.mk.injEq] at he
     obtain ⟨rfl, rfl⟩ := he
     have rz := (gn h eT ay).2
     rw [ae] at rz
     have rz := rm rz
     obtain ⟨af, an⟩ := gn h eT aA
     obtain ⟨fp, g6⟩ := gn h eT bL
     refine ⟨.value (if b then a.eval x else a.eval y), w, _, F, S, ?_, .inl rfl, h, .inl ?_⟩
     ·simp [execOp, rz, asBool]
     ·cases b
      ·exact ⟨fp, g6⟩
      ·exact ⟨af, an⟩
    ·cases he
   ·cases ah
 | alloc T =>
   simp only [di, Option.some.injEq] at ah; subst ah
   simp only [bU, Option.map_eq_some_iff, Prod.mk.injEq] at he
   obtain ⟨d, al, rfl, rfl⟩ := he
   exact (NZ bA h al).next
 | box T x =>
   simp only [di, Option.map_eq_some_iff] at ah
   obtain ⟨cz, aA, rfl⟩ := ah
   obtain ⟨bc, bG⟩ := gn h eT aA
   exact (N1 h bc bG he).next
 | build T ps =>
   simp only [di, Option.map_eq_some_iff] at ah
   obtain ⟨OW, ax, rfl⟩ := ah
   obtain ⟨ps⟩ := ps
   have := (OQ bA h (Ds h eT ax) he).next
   simpa [execOp] using this
 | buildSlice T n ps =>
   simp only [di, Option.map_eq_some_iff] at ah
   obtain ⟨OW, ax, rfl⟩ := ah
   obtain ⟨ps⟩ := ps
   have := (OT bA h (Ds h eT ax) he).next
   simpa [execOp] using this
 | load T x =>
   simp only [di, Option.map_eq_some_iff] at ah
   obtain ⟨cz, aA, rfl⟩ := ah
   obtain ⟨bc, bG⟩ := gn h eT aA
   simp only [bU, Option.map_eq_some_iff, Prod.mk.injEq] at he
   obtain ⟨d, al, rfl, rfl⟩ := he
   exact (NU bA h bG al).next
 | store T x y =>
   simp only [di] at ah
   split at ah
   ·rename_i cz jS aA bL
    simp only [Option.some.injEq] at ah; subst ah
    simp only [bU, Option.map_eq_some_iff, Prod.mk.injEq] at he
    obtain ⟨s2, al, rfl, rfl⟩ := he
    obtain ⟨aS, a1, ai, aj⟩ := NX bA h (gn h eT aA).2 (gn h eT bL).1 (gn h eT bL).2 al
    exact ⟨.skip, aS, undef, F, a1, by simp [execOp, ai], .inr ⟨rfl, rfl⟩, aj, .inl ⟨rfl, by rw [aV]; trivial⟩⟩
   ·cases ah
 | nilCheck x =>
   simp only [di, Option.map_eq_some_iff] at ah
   obtain ⟨cz, aA, rfl⟩ := ah
   obtain ⟨bc, bG⟩ := gn h eT aA
   simp only [bU, Option.map_eq_some_iff, Prod.mk.injEq] at he
   obtain ⟨d, al, rfl, rfl⟩ := he
   obtain ⟨rfl, ax, a2⟩ := N_ h bG al
   refine ⟨.value (a.eval x), w, _, F, S, ?_, .inl rfl, h, .inl ⟨ax, bG⟩⟩
   rcases a2 with ⟨b, ae⟩ | ⟨f, c, ae⟩ <;> simp [execOp, ae]
 | binOp op T x y auQ =>
   simp only [di] at ah
   split at ah
   ·rename_i cz jS aA bL
    simp only [Option.some.injEq] at ah; subst ah
    simp only [bU, Option.map_eq_some_iff, Prod.mk.injEq] at he
    obtain ⟨d, al, rfl, rfl⟩ := he
    exact (N5 bA h x y (gn h eT aA).2 (gn h eT bL).2 al).next
   ·cases ah
 | unOp op T x =>
   simp only [di, Option.map_eq_some_iff] at ah
   obtain ⟨cz, aA, rfl⟩ := ah
   simp only [bU, Option.map_eq_some_iff, Prod.mk.injEq] at he
   obtain ⟨d, al, rfl, rfl⟩ := he
   exact (N8 h (gn h eT aA).2 al).next
 | convert A B x =>
   simp only [di, Option.map_eq_some_iff] at ah
   obtain ⟨cz, aA, rfl⟩ := ah
   simp only [bU, Option.map_eq_some_iff, Prod.mk.injEq] at he
   obtain ⟨d, al, rfl, rfl⟩ := he
   exact (Oh bA h (gn h eT aA).2 al).next
 | makeFunc fn first cs =>
   cases fn with
   | func f =>
     simp only [di] at ah
     split at ah
     ·rename_i Dt
      simp only [Option.map_eq_some_iff] at ah
      obtain ⟨nb, ig, rfl⟩ := ah
      simp only [bU, Option.some.injEq, Prod.mk.injEq] at he
      obtain ⟨rfl, rfl⟩ := he
      have Du : first = #[] := by simpa using Dt
      subst Du
      refine ⟨_, w, _, F, S, rfl, .inl rfl, h, .inl ⟨rfl, ?_⟩⟩
      rw [aV]
      refine ⟨cs.map a.eval, by simp, ?_⟩
      simpa using zf h eT _ _ (rA ig)
     ·cases ah
   | _ => simp [di] at ah
 | makeSlice T l c =>
   simp only [di] at ah
   split at ah
   ·rename_i cz jS aA bL
    simp only [Option.some.injEq] at ah; subst ah
    simp only [bU, Option.map_eq_some_iff, Prod.mk.injEq] at he
    obtain ⟨d, al, rfl, rfl⟩ := he
    exact (OH bA h (gn h eT aA).2 (gn h eT bL).2 al).next
   ·cases ah
 | slice T x de ar hE =>
   cases hE with
   | some m => simp [di] at ah
   | none =>
     simp only [di] at ah
     split at ah
     ·rename_i cz auR Hn aA m3 m4
      simp only [Option.some.injEq] at ah; subst ah
      obtain ⟨bc, bG⟩ := gn h eT aA
      have opt : ∀ {o : Option Operand} {mE : Option aG}, vW o = some mE → pz w F s aF (mE.map (aR s)) (o.map a.eval) := by
       intro o mE cm
       cases o with
       | none => simp [vW] at cm; subst cm; trivial
       | some o =>
         simp only [vW, Option.map_eq_some_iff] at cm
         obtain ⟨x, aA, rfl⟩ := cm
         exact (gn h eT aA).2
      exact (Ok bA h bc bG (opt m3) (opt m4) he).next
     ·cases ah
 | fieldAddr T x k =>
   simp only [di, Option.map_eq_some_iff] at ah
   obtain ⟨cz, aA, rfl⟩ := ah
   obtain ⟨bc, bG⟩ := gn h eT aA
   simp only [bU, Option.map_eq_some_iff, Prod.mk.injEq] at he
   obtain ⟨d, al, rfl, rfl⟩ := he
   exact (NN bA h bc bG al).next
 | indexAddr T x i =>
   simp only [di] at ah
   split at ah
   ·rename_i cz jS aA bL
    simp only [Option.some.injEq] at ah; subst ah
    simp only [bU, Option.map_eq_some_iff, Prod.mk.injEq] at he
    obtain ⟨d, al, rfl, rfl⟩ := he
    exact (NO bA h (gn h eT aA).2 (gn h eT bL).2 al).next
   ·cases ah
 | index T x i =>
   simp only [di] at ah
   split at ah
   ·rename_i cz jS aA bL
    simp only [Option.some.injEq] at ah; subst ah
    simp only [bU, Option.map_eq_some_iff, Prod.mk.injEq] at he
    obtain ⟨d, al, rfl, rfl⟩ := he
    exact (Oe bA h (gn h eT aA).2 (gn h eT bL).2 al).next
   ·cases ah
 | extract x k =>
   simp only [di, Option.map_eq_some_iff] at ah
   obtain ⟨cz, aA, rfl⟩ := ah
   simp only [bU, Option.map_eq_some_iff, Prod.mk.injEq] at he
   obtain ⟨d, al, rfl, rfl⟩ := he
   exact (Oc h (gn h eT aA).2 al).next
 | call c =>
   obtain ⟨callee, args, argTypes⟩ := c
   simp only [di] at ah
   split at ah
   ·split at ah
    ·simp only [Option.some.injEq] at ah; subst ah
     simp [bU] at he
    ·cases ah
   ·split at ah
    ·rename_i x T l4 rB
     simp only [Option.map_eq_some_iff] at ah
     obtain ⟨cz, aA, rfl⟩ := ah
     simp only [bU, Option.map_eq_some_iff, Prod.mk.injEq] at he
     obtain ⟨d, al, rfl, rfl⟩ := he
     have := (Of (ty := ty) bA h (gn h eT aA).2 al).next
     have a4 : args = #[x] := by apply Array.ext'; exact l4
     have a_ : argTypes = #[T] := by apply Array.ext'; exact rB
     subst a4 a_
     simpa [execOp, resolve, invoke, builtin] using this
    ·cases ah
   ·split at ah
    ·rename_i x T l4 rB
     simp only [Option.map_eq_some_iff] at ah
     obtain ⟨cz, aA, rfl⟩ := ah
     simp only [bU] at he
     split at he
     ·rename_i e aE OX
      simp only [Option.some.injEq, Prod.mk.injEq] at he
      obtain ⟨rfl, rfl⟩ := he
      have a2 := (gn h eT aA).2
      rw [OX] at a2
      have := py a2
      obtain ⟨i, d, z, a4, a_, a3, c1, c6, cl, cf⟩ := bA.info (g5 aE (by simp))
      rw [aE] at cf
      have al := kU cf; subst al
      have OY : args = #[x] := by apply Array.ext'; exact l4
      have OZ : argTypes = #[T] := by apply Array.ext'; exact rB
      subst OY OZ
      have a7 : (Builtin.cap_ #[T] ty #[a.eval x]).run C.P w = .ok (.int .i64 0) w := by
       rw [this]; simp [Builtin.cap_, run_underlying cl, goInt]
      have := (Good.same (av := .int .i64 0) h a7 rfl (of_int _ _)).next
      simpa [execOp, resolve, invoke, builtin] using this
     ·cases he
    ·cases ah
   ·split at ah
    ·rename_i x y l4
     split at ah
     ·rename_i cz jS aA bL
      simp only [Option.some.injEq] at ah; subst ah
      have a4 : args = #[x, y] := by apply Array.ext'; exact l4
      subst a4
      exact Hl h (gn h eT aA).2 (gn h eT bL).2 he (by simp [execOp, resolve, invoke, builtin, Builtin.min_])
     ·cases ah
    ·cases ah
   ·split at ah
    ·rename_i x y l4
     split at ah
     ·rename_i cz jS aA bL
      simp only [Option.some.injEq] at ah; subst ah
      have a4 : args = #[x, y] := by apply Array.ext'; exact l4
      subst a4
      exact Hl h (gn h eT aA).2 (gn h eT bL).2 he (by simp [execOp, resolve, invoke, builtin, Builtin.max_])
     ·cases ah
    ·cases ah
   ·split at ah
    ·rename_i x y T bN l4 rB
     split at ah
     ·rename_i cz jS aA bL
      simp only [Option.some.injEq] at ah; subst ah
      have := (Oz (ty := ty) bA h (gn h eT aA).2 (gn h eT bL).2 he).next
      have a4 : args = #[x, y] := by apply Array.ext'; exact l4
      have a_ : argTypes = #[T, bN] := by apply Array.ext'; exact rB
      subst a4 a_
      simpa [execOp, resolve, invoke, builtin] using this
     ·cases ah
    ·cases ah
   ·cases ah
 | _ => simp [di] at ah
end
mutual
def I.ah : I → List Nat
 | .h x _ => [x]
 | .ax x _ => [x]
 | .ae x _ => [x]
 | .fn _ cap => I.d_ cap
 | _ => []
def I.d_ : List I → List Nat
 | [] => []
 | d :: ds => d.ah ++ I.d_ ds
end
inductive oT where
 | no
 | cc
 | cP
structure gM where
 k : oT
 x : Nat
 d : I
def oT.app (k : oT) (x : Nat) (a : I) : I := match k with
 | .no => a
 | .cc => dg.cc x a
 | .cP => dg.cP x a
def gM.at (m : gM) (u : Nat) (a : I) : I := if u = m.x then m.d else m.k.app m.x a
def jA : List gM → Nat → I → I
 | [], _, a => a
 | m :: ms, u, a => jA ms u (m.at u a)
def dw (ms : List gM) (s : au) : au := fun u => jA ms u (s u)
theorem Ho : ∀ (ms kE : List gM) (u : Nat) (a : I), jA (ms ++ kE) u a = jA kE u (jA ms u a)
 | [], _, _, _ => rfl
 | m :: ms, kE, u, a => by simp only [List.cons_append, jA]; exact Ho ms kE u _
theorem lg (ms kE : List gM) (s : au) : dw (ms ++ kE) s = dw kE (dw ms s) := by
 funext u; simp [dw, Ho]
theorem O0 {ms : List gM} {s az : au} {u : Nat} (h : az u = s u) : dw ms az u = dw ms s u := by simp [dw, h]
theorem vY (s : au) (x : Nat) (d : I) : dr (iJ x s) x d = dw [⟨.cc, x, d⟩] s := by
 funext u; simp only [dw, jA, gM.at, dr, iJ, oT.app]
theorem Hp (s : au) (x : Nat) (d : I) : dr (ly x s) x d = dw [⟨.cP, x, d⟩] s := by
 funext u; simp only [dw, jA, gM.at, dr, ly, oT.app]
theorem Dv (s : au) (x : Nat) (d : I) : dr s x d = dw [⟨.no, x, d⟩] s := by
 funext u; simp only [dw, jA, gM.at, dr, oT.app]
mutual
theorem vZ {x : Nat} : ∀ a : I, x ∉ a.ah → cc x a = a
 | .h y q, h => by
   simp only [I.ah, List.mem_singleton] at h
   simp only [cc]; rw [if_neg (fun e => h e.symm)]
 | .ax y q, h => by
   simp only [I.ah, List.mem_singleton] at h
   simp only [cc]; rw [if_neg (fun e => h e.symm)]
 | .ae y q, h => rfl
 | .fn f cap, h => by simp only [cc]; rw [Hq cap (by simpa [I.ah] using h)]
 | .hole, _ => rfl
 | .bool _, _ => rfl
 | .fi, _ => rfl
 | .int _ _, _ => rfl
 | .str _, _ => rfl
 | .dC, _ => rfl
 | .bg, _ => rfl
 | .slice _, _ => rfl
 | .aw _ _, _ => rfl
 | .ref _, _ => rfl
 | .a8 _, _ => rfl
 | .agg _, _ => rfl
 | .tuple _, _ => rfl
theorem Hq {x : Nat} : ∀ ds : List I, x ∉ I.d_ ds → ix x ds = ds
 | [], _ => rfl
 | d :: ds, h => by
   simp only [I.d_, List.mem_append, not_or] at h
   simp only [ix]; rw [vZ d h.1, Hq ds h.2]
end
mutual
theorem Dw {x : Nat} : ∀ a : I, x ∉ a.ah → cP x a = a
 | .h y q, h => by
   simp only [I.ah, List.mem_singleton] at h
   simp only [cP]; rw [if_neg (fun e => h e.symm)]
 | .ax y q, h => by
   simp only [I.ah, List.mem_singleton] at h
   simp only [cP]; rw [if_neg (fun e => h e.symm)]
 | .ae y q, h => by
   simp only [I.ah, List.mem_singleton] at h
   simp only [cP]; rw [if_neg (fun e => h e.symm)]
 | .fn f cap, h => by simp only [cP]; rw [Hr cap (by simpa [I.ah] using h)]
 | .hole, _ => rfl
 | .bool _, _ => rfl
 | .fi, _ => rfl
 | .int _ _, _ => rfl
 | .str _, _ => rfl
 | .dC, _ => rfl
 | .bg, _ => rfl
 | .slice _, _ => rfl
 | .aw _ _, _ => rfl
 | .ref _, _ => rfl
 | .a8 _, _ => rfl
 | .agg _, _ => rfl
 | .tuple _, _ => rfl
theorem Hr {x : Nat} : ∀ ds : List I, x ∉ I.d_ ds → iX x ds = ds
 | [], _ => rfl
 | d :: ds, h => by
   simp only [I.d_, List.mem_append, not_or] at h
   simp only [iX]; rw [Dw d h.1, Hr ds h.2]
end
theorem v3 {k : oT} {x : Nat} {a : I} (h : k = .no ∨ x ∉ a.ah) : k.app x a = a := by
 cases k with
 | no => rfl
 | cc => exact vZ a (by simpa using h)
 | cP => exact Dw a (by simpa using h)
mutual
theorem Hs (x y : Nat) : ∀ a : I, cc x (cc y a) = cc y (cc x a)
 | .h z q => by simp only [cc]; by_cases ai : z = x <;> by_cases aj : z = y <;> by_cases aP : q = [] <;> simp [ai, aj, aP, cc] <;> (subst_vars; simp_all [cc])
 | .ax z q => by simp only [cc]; by_cases ai : z = x <;> by_cases aj : z = y <;> simp [ai, aj, cc] <;> (subst_vars; simp_all [cc])
 | .ae z q => rfl
 | .fn f cap => by simp only [cc]; rw [Ht x y cap]
 | .hole => rfl
 | .bool _ => rfl
 | .fi => rfl
 | .int _ _ => rfl
 | .str _ => rfl
 | .dC => rfl
 | .bg => rfl
 | .slice _ => rfl
 | .aw _ _ => rfl
 | .ref _ => rfl
 | .a8 _ => rfl
 | .agg _ => rfl
 | .tuple _ => rfl
theorem Ht (x y : Nat) : ∀ ds : List I, ix x (ix y ds) = ix y (ix x ds)
 | [] => rfl
 | d :: ds => by simp only [ix]; rw [Hs x y d, Ht x y ds]
end
mutual
theorem Hu (x y : Nat) : ∀ a : I, cP x (cP y a) = cP y (cP x a)
 | .h z q => by simp only [cP]; by_cases ai : z = x <;> by_cases aj : z = y <;> simp [ai, aj, cP] <;> (subst_vars; simp_all [cP])
 | .ax z q => by simp only [cP]; by_cases ai : z = x <;> by_cases aj : z = y <;> simp [ai, aj, cP] <;> (subst_vars; simp_all [cP])
 | .ae z q => by simp only [cP]; by_cases ai : z = x <;> by_cases aj : z = y <;> simp [ai, aj, cP] <;> (subst_vars; simp_all [cP])
 | .fn f cap => by simp only [cP]; rw [Hv x y cap]
 | .hole => rfl
 | .bool _ => rfl
 | .fi => rfl
 | .int _ _ => rfl
 | .str _ => rfl
 | .dC => rfl
 | .bg => rfl
 | .slice _ => rfl
 | .aw _ _ => rfl
 | .ref _ => rfl
 | .a8 _ => rfl
 | .agg _ => rfl
 | .tuple _ => rfl
theorem Hv (x y : Nat) : ∀ ds : List I, iX x (iX y ds) = iX y (iX x ds)
 | [] => rfl
 | d :: ds => by simp only [iX]; rw [Hu x y d, Hv x y ds]
end
mutual
theorem Dx (x y : Nat) : ∀ a : I, cc x (cP y a) = cP y (cc x a)
 | .h z q => by simp only [cP, cc]; by_cases ai : z = x <;> by_cases aj : z = y <;> by_cases aP : q = [] <;> simp [ai, aj, aP, cP, cc] <;> (subst_vars; simp_all [cP, cc])
 | .ax z q => by simp only [cP, cc]; by_cases ai : z = x <;> by_cases aj : z = y <;> simp [ai, aj, cP, cc] <;> (subst_vars; simp_all [cP, cc])
 | .ae z q => by simp only [cP, cc]; by_cases aj : z = y <;> simp [aj, cc]
 | .fn f cap => by simp only [cP, cc]; rw [Hw x y cap]
 | .hole => rfl
 | .bool _ => rfl
 | .fi => rfl
 | .int _ _ => rfl
 | .str _ => rfl
 | .dC => rfl
 | .bg => rfl
 | .slice _ => rfl
 | .aw _ _ => rfl
 | .ref _ => rfl
 | .a8 _ => rfl
 | .agg _ => rfl
 | .tuple _ => rfl
theorem Hw (x y : Nat) : ∀ ds : List I, ix x (iX y ds) = iX y (ix x ds)
 | [] => rfl
 | d :: ds => by simp only [iX, ix]; rw [Dx x y d, Hw x y ds]
end
theorem O1 (k l : oT) (x y : Nat) (a : I) : k.app x (l.app y a) = l.app y (k.app x a) := by
 cases k <;> cases l <;> simp only [oT.app] <;> first | rfl | exact Hs .. | exact Hu .. | exact Dx .. | exact (Dx ..).symm
def aG.use (s : au) : aG → List Nat
 | .t n => n :: (s n).ah
 | .c av => av.ah
 | .f _ => []
def aG.nc (s : au) : List aG → List Nat
 | [] => []
 | x :: xs => x.use s ++ aG.nc s xs
def Dy (s : au) : Option aG → List Nat
 | none => []
 | some x => x.use s
def use (s : au) : fZ → List Nat
 | .ad x => x.use s
 | .ag x => x.use s
 | .pick c a b => c.use s ++ (a.use s ++ b.use s)
 | .ey _ => []
 | .c7 _ x => x.use s
 | .fX _ ps => aG.nc s (ps.map (·.2))
 | .eh _ _ ps => aG.nc s (ps.map (·.2))
 | .aD _ x => x.use s
 | .cC _ x y => x.use s ++ y.use s
 | .dP x => x.use s
 | .aq _ _ x y => x.use s ++ y.use s
 | .un _ x => x.use s
 | .fW _ _ x => x.use s
 | .ia _ cs => aG.nc s cs
 | .eU _ l c => l.use s ++ c.use s
 | .fA _ x de ar => x.use s ++ (Dy s de ++ Dy s ar)
 | .aU _ x _ => x.use s
 | .bK _ x i => x.use s ++ i.use s
 | .idx _ x i => x.use s ++ i.use s
 | .ex x _ => x.use s
 | .call f args => f.use s ++ aG.nc s args
 | .len _ x => x.use s
 | .app _ _ x y => x.use s ++ y.use s
 | .shr bM => use s bM
 | .l3 f args u x => u :: x :: (f.use s ++ aG.nc s args)
 | .j1 f args us => us.flatMap (fun u => u :: (s u).ah) ++ (f.use s ++ aG.nc s args)
 | .jz _ x => x.use s
 | .m8 _ _ x y => x.use s ++ y.use s
 | .cap _ x => x.use s
 | .oS _ x y => x.use s ++ y.use s
 | .bad => []
def dz (s : au) : fZ → List Nat
 | .ag x => (aR s x).ah
 | .c7 _ x => (aR s x).ah
 | .fX _ ps => I.d_ (ps.map fun p => aR s p.2)
 | .eh _ _ ps => I.d_ (ps.map fun p => aR s p.2)
 | .cC _ x y => (aR s x).ah ++ (aR s y).ah
 | .fA _ x _ _ => (aR s x).ah
 | .app _ _ x y => (aR s x).ah ++ (aR s y).ah
 | .shr bM => dz s bM
 | _ => []
def ee (bN : List Nat) (az s : au) : Prop := ∀ u ∈ bN, az u = s u
theorem ee.left {bN V : List Nat} {az s : au} (h : ee (bN ++ V) az s) : ee bN az s := fun u hu => h u (List.mem_append_left _ hu)
theorem ee.right {bN V : List Nat} {az s : au} (h : ee (bN ++ V) az s) : ee V az s := fun u hu => h u (List.mem_append_right _ hu)
theorem ee.dw {bN : List Nat} {az s : au} (h : ee bN az s) (ms : List gM) : ee bN (dw ms az) (dw ms s) := fun u hu => O0 (h u hu)
theorem ee.sub {bN V : List Nat} {az s : au} (h : ee bN az s) (ah : ∀ u ∈ V, u ∈ bN) : ee V az s := fun u hu => h u (ah u hu)
theorem aG.rC {s : au} {x : aG} : ∀ u ∈ (aR s x).ah, u ∈ x.use s := by
 intro u hu
 cases x with
 | t n =>
   simp only [aR, iY] at hu
   split at hu
   ·simp [aG.use, hu]
   ·simp only [I.ah, List.mem_singleton] at hu; simp [aG.use, hu]
 | c av => exact hu
 | f g => simp [aR, I.ah, I.d_] at hu
theorem aG.gJ {s az : au} {x : aG} (h : ee (x.use s) az s) : aR az x = aR s x := by
 cases x with
 | t n => simp only [aR]; rw [h n (by simp [aG.use])]
 | c av => rfl
 | f g => rfl
theorem ee.aR {s az : au} {x : aG} (h : ee (x.use s) az s) : ee (aR s x).ah az s := h.sub aG.rC
theorem Hx {s az : au} {x : Option aG} (h : ee (Dy s x) az s) : x.map (aR az) = x.map (aR s) := by
 cases x with
 | none => rfl
 | some x => simp only [Option.map_some]; rw [aG.gJ h]
theorem aG.Dz {s az : au} : ∀ {xs : List aG}, ee (aG.nc s xs) az s → xs.map (aR az) = xs.map (aR s)
 | [], _ => rfl
 | x :: xs, h => by
   simp only [List.map_cons]
   rw [aG.gJ (h.left), aG.Dz (h.right)]
theorem aG.DA {s az : au} : ∀ {ps : List (Nat × aG)}, ee (aG.nc s (ps.map (·.2))) az s → (ps.map fun p => (p.1, aR az p.2)) = ps.map fun p => (p.1, aR s p.2)
 | [], _ => rfl
 | x :: xs, h => by
   simp only [List.map_cons] at h ⊢
   rw [aG.gJ (h.left), aG.DA (h.right)]
theorem aG.zh {s : au} : ∀ {xs : List aG}, ∀ u ∈ I.d_ (xs.map (aR s)), u ∈ aG.nc s xs
 | [], u, h => by simp [I.d_] at h
 | x :: xs, u, h => by
   simp only [List.map_cons, I.d_, List.mem_append] at h
   simp only [aG.nc, List.mem_append]
   exact h.imp (aG.rC u) (aG.zh u)
section
variable {C : cn} {s az : au} {x y i : I} {T A B : TypeId}
theorem DB (h : ee x.ah az s) : loc az x = loc s x := by
 cases x <;> first
  | rfl
  | (simp only [loc]; rw [h _ (by simp [I.ah])])
theorem DC {z : Nat} {q : List Nat} (h : loc s x = some (z, q)) : z ∈ x.ah := by
 cases x with
 | h y p =>
   simp only [loc] at h
   split at h
   ·simp only [Option.some.injEq, Prod.mk.injEq] at h; simp [I.ah, h.1]
   ·cases h
 | ax y p =>
   simp only [loc] at h
   split at h
   ·simp only [Option.some.injEq, Prod.mk.injEq] at h; simp [I.ah, h.1]
   ·cases h
 | _ => simp [loc] at h
theorem O2 (h : ee x.ah az s) : aD C az T x = aD C s T x := by
 have hl := DB h
 unfold aD
 split
 ·rfl
 ·rw [h _ (by simp [I.ah])]
 ·rw [hl]
  split
  ·rename_i e
   rw [h _ (DC e)]
  ·rfl
theorem O3 {k : Nat} (h : ee x.ah az s) : aU C az T x k = aU C s T x k := by
 have hl := DB h
 unfold aU
 split
 ·split
  ·split
   ·split
    ·rfl
    ·rw [h _ (by simp [I.ah])]
    ·rw [hl]
     split
     ·rename_i e
      rw [h _ (DC e)]
     ·rfl
   ·rfl
  ·rfl
 ·rfl
theorem O4 (h : ee x.ah az s) : bK C az T x i = bK C s T x i := by
 cases x <;> first
  | rfl
  | (simp only [bK]; rw [h _ (by simp [I.ah])])
theorem O5 (h : ee x.ah az s) : lB C az T x = lB C s T x := by
 unfold lB
 cases (C.T T).k <;> cases x <;> first
  | rfl
  | (simp only; rw [h _ (by simp [I.ah])])
theorem O6 (h : ee x.ah az s) : fW C az A B x = fW C s A B x := by
 unfold fW
 cases (C.T B).k <;> cases x <;> first
  | rfl
  | (simp only; rw [h _ (by simp [I.ah])])
theorem O7 (h : ee x.ah az s) : kV az x = kV s x := by
 cases x <;> first
  | rfl
  | (simp only [kV]; rw [h _ (by simp [I.ah])])
theorem O8 (h : ee x.ah az s) : kW az x = kW s x := by
 cases x <;> first
  | rfl
  | (simp only [kW]; rw [h _ (by simp [I.ah])])
theorem O9 {op : BinOp} (h : ee x.ah az s) : aq C az op T x y = aq C s op T x y := by
 have ai := O7 h
 have aj := O8 h
 unfold aq
 split <;> first | rfl | simp only [ai, aj]
theorem O_ (h : ee x.ah az s) : dP az x = dP s x := by
 cases x <;> first
  | rfl
  | (simp only [dP]; rw [h _ (by simp [I.ah])])
theorem Pa {k : Nat} (h : ee x.ah az s) : ex az x k = ex s x k := by
 cases x <;> first
  | rfl
  | (simp only [ex]; rw [h _ (by simp [I.ah])])
theorem v5 : ∀ (q : List Nat) (a d e : I), I.sub q a = some d → (d.plain = false ∨ q ≠ []) → (q = [] → e.ah = []) → (I.put q e a).ah = [] := by
 intro q a d e h ax he
 cases q with
 | nil => rw [I.put]; exact he rfl
 | cons k q =>
   cases a <;> first
    | (simp [I.sub] at h; done)
    | skip
   all_goals
    unfold I.put
    repeat' split
    all_goals first | rfl | (simp_all; done)
end
def Loc {α : Type} (bN tE : List Nat) (f : au → Option (α × au)) (s : au) (av : α) (s1 : au) : Prop :=
 ∃ ms, s1 = dw ms s ∧ (∀ m ∈ ms, m.x ∈ tE ∧ m.d.ah = []) ∧ ∀ az, ee bN az s → f az = some (av, dw ms az)
theorem Loc.pure {α : Type} {bN tE : List Nat} {f : au → Option (α × au)} {s : au} {av : α} (h : ∀ az, ee bN az s → f az = some (av, az)) : Loc bN tE f s av s :=
 ⟨[], rfl, by simp, fun az ah => h az ah⟩
theorem Loc.mono {α : Type} {bN tE zi Hy : List Nat} {f : au → Option (α × au)} {s s1 : au} {av : α} (h : Loc bN tE f s av s1) (oQ : ∀ u ∈ bN, u ∈ zi) (k_ : ∀ u ∈ tE, u ∈ Hy) : Loc zi Hy f s av s1 := by
 obtain ⟨ms, ai, aj, aP⟩ := h
 exact ⟨ms, ai, fun m hm => ⟨k_ _ (aj m hm).1, (aj m hm).2⟩, fun az ah => aP az (ah.sub oQ)⟩
section
variable {C : cn} {s s1 : au} {x y d : I} {T A B : TypeId}
theorem rD (h : cT s x = some (d, s1)) : Loc x.ah x.ah (fun s => cT s x) s d s1 := by
 cases x with
 | h y q =>
   simp only [cT] at h
   split at h
   ·rename_i e he
    split at h
    ·cases h
    ·rename_i ax
     simp only [Option.some.injEq, Prod.mk.injEq] at h
     obtain ⟨rfl, rfl⟩ := h
     have ax : e.plain = false := by simpa using ax
     refine ⟨[⟨.cc, y, I.put q e.dh (s y)⟩], vY _ _ _, ?_, ?_⟩
     ·intro m hm
      simp only [List.mem_singleton] at hm; subst hm
      refine ⟨by simp [I.ah], v5 q _ _ _ he (.inl ax) fun dc => ?_⟩
      subst dc
      cases e <;> first | (simp [I.plain] at ax; done) | rfl
     ·intro az ah
      have a4 : az y = s y := ah y (by simp [I.ah])
      simp only [cT, a4, he, ax]
      rw [← vY]; rfl
   ·cases h
 | ax y q => simp [cT] at h
 | ae y q => simp [cT] at h
 | fn f c => simp [cT] at h
 | hole => simp [cT] at h
 | _ =>
   simp only [cT, Option.some.injEq, Prod.mk.injEq] at h
   obtain ⟨rfl, rfl⟩ := h
   exact .pure fun az _ => rfl
mutual
theorem Hz (x : Nat) : ∀ a : I, ∀ u ∈ (cc x a).ah, u ∈ a.ah
 | .h y q, u, h => by
   simp only [cc] at h
   split at h
   ·split at h
    ·exact h
    ·simp [I.ah] at h
   ·exact h
 | .ax y q, u, h => by
   simp only [cc] at h
   split at h
   ·simp [I.ah] at h
   ·exact h
 | .ae y q, u, h => h
 | .fn f cap, u, h => by simp only [cc, I.ah] at h ⊢; exact HA x cap u h
 | .hole, u, h => h
 | .bool _, u, h => h
 | .fi, u, h => h
 | .int _ _, u, h => h
 | .str _, u, h => h
 | .dC, u, h => h
 | .bg, u, h => h
 | .slice _, u, h => h
 | .aw _ _, u, h => h
 | .ref _, u, h => h
 | .a8 _, u, h => h
 | .agg _, u, h => h
 | .tuple _, u, h => h
theorem HA (x : Nat) : ∀ ds : List I, ∀ u ∈ I.d_ (ix x ds), u ∈ I.d_ ds
 | [], u, h => h
 | d :: ds, u, h => by
   simp only [ix, I.d_, List.mem_append] at h ⊢
   exact h.imp (Hz x d u) (HA x ds u)
end
theorem DD (o : Option Nat) (a : I) : ∀ u ∈ (kg o a).ah, u ∈ a.ah := by
 intro u h
 cases o with
 | none => exact h
 | some x => exact Hz x a u h
theorem HB : ∀ (os : List (Option Nat)) (a : I), ∀ u ∈ (kC os a).ah, u ∈ a.ah := by
 intro os
 induction os with
 | nil => intro a u h; exact h
 | cons o os ih => intro a u h; exact DD o a u (ih (kg o a) u h)
theorem HC {place : Nat → Option (Nat × Nat)} : ∀ {ps : List (Nat × I)} {s s1 : au} {e9 ds : List I} {os : List (Option Nat)}, eE place s e9 os ps = some (ds, s1) →
  Loc (I.d_ (ps.map (·.2))) (I.d_ (ps.map (·.2))) (fun s => eE place s e9 os ps) s ds s1 := by
 intro ps
 induction ps with
 | nil =>
   intro s s1 e9 ds os h
   simp only [eE, Option.some.injEq, Prod.mk.injEq] at h
   obtain ⟨rfl, rfl⟩ := h
   exact .pure fun az _ => rfl
 | cons p ps ih =>
   intro s s1 e9 ds os h
   obtain ⟨k, a⟩ := p
   simp only [eE] at h
   split at h
   ·rename_i d s2 off n z bh fV ca
    split at h
    ·cases h
    ·rename_i bE l5
     split at h
     ·rename_i ay
      obtain ⟨nS, rfl, aj, aP⟩ := rD bh
      obtain ⟨rE, rfl, b5, cF⟩ := ih h
      refine ⟨nS ++ rE, (lg _ _ _).symm, ?_, ?_⟩
      ·intro m hm
       simp only [List.map_cons, I.d_, List.mem_append] at hm ⊢
       rcases hm with hm | hm
       ·exact ⟨.inl (HB _ _ _ (aj m hm).1), (aj m hm).2⟩
       ·exact ⟨.inr (b5 m hm).1, (b5 m hm).2⟩
      ·intro az ah
       simp only [List.map_cons, I.d_] at ah
       have a4 := aP az (ah.left.sub (HB _ _))
       have a_ := cF (dw nS az) (ah.right.dw nS)
       simp only at a4 a_
       simp only [eE, a4, fV, ca, lg]
       rw [if_pos ay]; exact a_
     ·cases h
   ·cases h
theorem Pb {ps : List (Nat × I)} {av : I} (h : fX C s T ps = some (av, s1)) : Loc (I.d_ (ps.map (·.2))) (I.d_ (ps.map (·.2))) (fun s => fX C s T ps) s av s1 := by
 unfold fX at h
 split at h
 ·rename_i aB e9 aE ca
  split at h
  ·rename_i ay
   split at h
   ·rename_i ds s2 bF
    simp only [Option.some.injEq, Prod.mk.injEq] at h
    obtain ⟨rfl, rfl⟩ := h
    obtain ⟨ms, ai, aj, aP⟩ := HC bF
    refine ⟨ms, ai, aj, fun az ah => ?_⟩
    have := aP az ah
    simp only at this
    simp only [fX, aE, ca, if_pos ay, this]
   ·cases h
  ·cases h
 ·cases h
theorem Pc {n : Nat} {ps : List (Nat × I)} {av : I} (h : eh C s T n ps = some (av, s1)) : Loc (I.d_ (ps.map (·.2))) (I.d_ (ps.map (·.2))) (fun s => eh C s T n ps) s av s1 := by
 unfold eh at h
 split at h
 ·rename_i e aE
  split at h
  ·rename_i ay
   split at h
   ·rename_i ds s2 bF
    simp only [Option.some.injEq, Prod.mk.injEq] at h
    obtain ⟨rfl, rfl⟩ := h
    obtain ⟨ms, ai, aj, aP⟩ := HC bF
    refine ⟨ms, ai, aj, fun az ah => ?_⟩
    have := aP az ah
    simp only at this
    simp only [eh, aE, if_pos ay, this]
   ·cases h
  ·cases h
 ·cases h
theorem Pd {av : I} (h : c7 s x = some (av, s1)) : Loc x.ah x.ah (fun s => c7 s x) s av s1 := by
 unfold c7 at h
 split at h
 ·cases h
 ·rename_i d s2 l5 bh
  simp only [Option.some.injEq, Prod.mk.injEq] at h
  obtain ⟨rfl, rfl⟩ := h
  obtain ⟨ms, ai, aj, aP⟩ := rD bh
  refine ⟨ms, ai, aj, fun az ah => ?_⟩
  have := aP az ah
  simp only at this
  simp only [c7, this]
 ·cases h
theorem Pe {av : I} (h : jz s x = some (av, s1)) : Loc x.ah [] (fun s => jz s x) s av s1 := by
 unfold jz at h
 split at h
 ·rename_i y q
  split at h
  ·rename_i ds mA
   split at h
   ·cases h
   ·rename_i vF
    simp only [Option.some.injEq, Prod.mk.injEq] at h
    obtain ⟨rfl, rfl⟩ := h
    refine .pure fun az ah => ?_
    have e : az y = s y := ah y (by simp [I.ah])
    simp only [jz, e, mA, if_neg vF]
  ·cases h
 ·cases h
theorem Pf {s2 : au} (h : cC C s T x y = some s2) : Loc (x.ah ++ y.ah) (x.ah ++ y.ah) (fun s => (cC C s T x y).map fun s1 => (I.hole, s1)) s .hole s2 := by
 unfold cC at h
 split at h
 ·rename_i d s1 z q bh hl
  obtain ⟨ms, ai, aj, aP⟩ := rD bh
  have ca := DC hl
  have dc : q ≠ [] := by
   cases x with
   | h y p =>
     simp only [loc] at hl
     split at hl
     ·simp only [Option.some.injEq, Prod.mk.injEq] at hl; simp [← hl.2]
     ·cases hl
   | ax y p =>
     simp only [loc] at hl
     split at hl
     ·rename_i nJ
      simp only [Option.some.injEq, Prod.mk.injEq] at hl
      obtain ⟨rfl, rfl⟩ := hl
      intro e; subst e; simp [I.fI] at nJ
     ·cases hl
   | _ => simp [loc] at hl
  split at h
  ·cases h
  ·rename_i bE l5
   split at h
   ·rename_i d0 kx
    split at h
    ·rename_i ay
     simp only [Option.some.injEq] at h; subst h
     refine ⟨ms ++ [⟨.cc, z, I.put q d (s z)⟩], ?_, ?_, ?_⟩
     ·rw [lg, ← ai, vY]
     ·intro m hm
      simp only [List.mem_append, List.mem_singleton] at hm ⊢
      rcases hm with hm | rfl
      ·exact ⟨.inr (aj m hm).1, (aj m hm).2⟩
      ·exact ⟨.inl ca, v5 q _ _ _ kx (.inr dc) fun e => (dc e).elim⟩
     ·intro az ah
      have a4 := aP az ah.right
      simp only at a4
      simp only [cC, a4, DB ah.left, hl, ah.left z ca, kx]
      cases d <;> first | (simp only [if_pos ay, Option.map_some, lg, vY]; done) | exact (l5 _ rfl).elim
    ·cases h
   ·cases h
 ·cases h
theorem Pg {de ar : Option I} {av : I} (h : fA C s T x de ar = some (av, s1)) : Loc x.ah x.ah (fun s => fA C s T x de ar) s av s1 := by
 cases x with
 | h y q =>
   unfold fA at h
   split at h <;> first | (cases h; done) | skip
   all_goals (rename_i aA; try cases aA)
   rename_i e aE
   split at h
   ·rename_i sz xs fm
    split at h
    ·rename_i b m3 m4
     split at h
     ·rename_i ay
      split at h
      ·rename_i d s2 bh
       simp only [Option.some.injEq, Prod.mk.injEq] at h
       obtain ⟨rfl, rfl⟩ := h
       obtain ⟨ms, ai, aj, aP⟩ := rD bh
       refine ⟨ms, ai, aj, fun az ah => ?_⟩
       have := aP az ah
       simp only at this
       have a4 : az y = s y := ah y (by simp [I.ah])
       simp only [fA, aE, a4, fm, m3, m4, if_pos ay, this]
      ·cases h
     ·cases h
    ·cases h
   ·cases h
 | _ =>
   have pD : s1 = s := by
    unfold fA at h
    repeat' split at h
    all_goals first | (cases h; done) | (simp only [Option.some.injEq, Prod.mk.injEq] at h; exact h.2.symm) | simp_all
   subst pD
   refine .pure fun az _ => ?_
   unfold fA at h ⊢
   repeat' split at h
   all_goals first
    | (cases h; done)
    | (simp only [Option.some.injEq, Prod.mk.injEq] at h
       obtain ⟨rfl, _⟩ := h
       simp_all)
def oU (C : cn) (e : TypeId) (s : au) : I → Option (I × au)
 | .bg => some (I.aw (C.T e).sz [], s)
 | .h a q => cT s (.h a q)
 | _ => none
def kY (s1 : au) : I → Option (List I × au)
 | .bg => some ([], s1)
 | .slice c4 => some (c4, s1)
 | .str l => some (l.map kh, s1)
 | .h a q => match cT s1 (.h a q) with
   | some (.aw _ c4, s2) => some (c4, s2)
   | _ => none
 | _ => none
theorem DE (C : cn) (s : au) (T bN : TypeId) (x y : I) : lD C s T bN x y = (match (C.T T).k with
 | .slice e => if (C.T e).ok = true ∧ (C.T e).zero.wd = (C.T e).sz ∧ (flat (C.T e).zero).isSome = true ∧ y8 C e bN = true then
   match oU C e s x with
   | some (.aw sz xs, s1) => if sz = (C.T e).sz then
     match kY s1 (kg x.owner y) with
     | some (c4, s2) => if (∀ d ∈ c4, d.wd = (C.T e).sz) ∧ (xs.length + c4.length) * (C.T e).bytes ≤ 140737488355328 ∧ xs.length + c4.length ≤ 9223372036854775807 then some (.aw sz (xs ++ c4), s2) else none
     | none => none
     else none
   | _ => none
   else none
 | _ => none) := by
 unfold lD
 generalize kg x.owner y = jS
 cases (C.T T).k <;> first
  | rfl
  | (cases x <;> cases jS <;> rfl)
theorem Ph {e : TypeId} {d : I} (ai : oU C e s x = some (d, s1)) : Loc x.ah x.ah (fun s => oU C e s x) s d s1 := by
 cases x with
 | bg =>
   simp only [oU, Option.some.injEq, Prod.mk.injEq] at ai
   obtain ⟨ai, rfl⟩ := ai
   exact .pure fun az _ => by simp only [oU, ai]
 | h a q => exact rD ai
 | _ => simp [oU] at ai
theorem Pj {c4 : List I} (aj : kY s y = some (c4, s1)) : Loc y.ah y.ah (fun s => kY s y) s c4 s1 := by
 cases y with
 | bg =>
   simp only [kY, Option.some.injEq, Prod.mk.injEq] at aj
   obtain ⟨rfl, rfl⟩ := aj
   exact .pure fun az _ => rfl
 | slice c4 =>
   simp only [kY, Option.some.injEq, Prod.mk.injEq] at aj
   obtain ⟨rfl, rfl⟩ := aj
   exact .pure fun az _ => rfl
 | str l =>
   simp only [kY, Option.some.injEq, Prod.mk.injEq] at aj
   obtain ⟨rfl, rfl⟩ := aj
   exact .pure fun az _ => rfl
 | h a q =>
   simp only [kY] at aj
   split at aj
   ·rename_i OB auS g7 bh
    simp only [Option.some.injEq, Prod.mk.injEq] at aj
    obtain ⟨rfl, rfl⟩ := aj
    obtain ⟨ms, bc, bG, cB⟩ := rD bh
    refine ⟨ms, bc, bG, fun az ah => ?_⟩
    have := cB az ah
    simp only at this
    simp only [kY, this]
   ·cases aj
 | _ => simp [kY] at aj
theorem Pk {av : I} (h : lD C s T A x y = some (av, s1)) : Loc (x.ah ++ y.ah) (x.ah ++ y.ah) (fun s => lD C s T A x y) s av s1 := by
 rw [DE] at h
 split at h
 ·rename_i e aE
  split at h
  ·rename_i ay
   split at h
   ·rename_i sz xs s2 ai
    split at h
    ·rename_i e3
     split at h
     ·rename_i c4 eY aj
      split at h
      ·rename_i lY
       simp only [Option.some.injEq, Prod.mk.injEq] at h
       obtain ⟨rfl, rfl⟩ := h
       obtain ⟨nS, rfl, bj, dy⟩ := Ph ai
       obtain ⟨rE, rfl, h_, l1⟩ := (Pj aj).mono (DD _ _) (DD _ _)
       refine ⟨nS ++ rE, (lg _ _ _).symm, ?_, ?_⟩
       ·intro m hm
        simp only [List.mem_append] at hm ⊢
        rcases hm with hm | hm
        ·exact ⟨.inl (bj m hm).1, (bj m hm).2⟩
        ·exact ⟨.inr (h_ m hm).1, (h_ m hm).2⟩
       ·intro az ah
        have a4 := dy az ah.left
        have a_ := l1 (dw nS az) (ah.right.dw nS)
        simp only at a4 a_
        simp only [DE, aE, if_pos ay, a4, if_pos e3, a_, if_pos lY, lg]
      ·cases h
     ·cases h
    ·cases h
   ·cases h
  ·cases h
 ·cases h
theorem HD {bM : fZ} {av : I} (h : bU C s bM = some (av, s1)) : Loc (use s bM) (dz s bM) (fun s => bU C s bM) s av s1 := by
 cases bM with
 | shr bM => simp [bU] at h
 | l3 f args u x => simp [bU] at h
 | j1 f args L => simp [bU] at h
 | jz T x =>
   obtain ⟨ms, ai, aj, aP⟩ := Pe h
   refine ⟨ms, ai, aj, fun az ah => ?_⟩
   simp only [bU, aG.gJ (x := x) ah]
   exact aP az (ee.aR ah)
 | m8 T bN x y =>
   simp only [bU, Option.map_eq_some_iff, Prod.mk.injEq] at h
   obtain ⟨d, al, rfl, rfl⟩ := h
   exact .pure fun az ah => by
    simp only [use] at ah
    simp only [bU, aG.gJ (x := x) ah.left, aG.gJ (x := y) ah.right, al, Option.map_some]
 | bad => simp [bU] at h
 | oS hE x y =>
   simp only [bU, Option.map_eq_some_iff, Prod.mk.injEq] at h
   obtain ⟨d, al, rfl, rfl⟩ := h
   exact .pure fun az ah => by
    simp only [use] at ah
    simp only [bU, aG.gJ (x := x) ah.left, aG.gJ (x := y) ah.right, al, Option.map_some]
 | cap T x =>
   simp only [bU] at h
   split at h
   ·rename_i e aE aA
    simp only [Option.some.injEq, Prod.mk.injEq] at h
    obtain ⟨rfl, rfl⟩ := h
    exact .pure fun az ah => by simp only [bU, aG.gJ (x := x) ah, aE, aA]
   ·cases h
 | ad x =>
   simp only [bU, Option.some.injEq, Prod.mk.injEq] at h
   obtain ⟨rfl, rfl⟩ := h
   exact .pure fun az ah => by simp only [bU, aG.gJ (x := x) ah]
 | ag x =>
   simp only [bU] at h
   split at h
   ·rename_i y q aA
    obtain ⟨ms, ai, aj, aP⟩ := rD h
    refine ⟨ms, ai, by simpa only [dz, aA] using aj, fun az ah => ?_⟩
    have e := aG.gJ (x := x) ah
    have a_ := aP az (by rw [← aA]; exact ee.aR ah)
    simp only [bU, e, aA]
    exact a_
   ·rename_i auT
    simp only [Option.some.injEq, Prod.mk.injEq] at h
    obtain ⟨rfl, rfl⟩ := h
    refine .pure fun az ah => ?_
    have e := aG.gJ (x := x) ah
    simp only [bU, e]
 | pick c a b =>
   simp only [bU] at h
   split at h
   ·rename_i fU ae
    simp only [Option.some.injEq, Prod.mk.injEq] at h
    obtain ⟨rfl, rfl⟩ := h
    refine .pure fun az ah => ?_
    simp only [use] at ah
    simp only [bU, aG.gJ (x := c) ah.left, aG.gJ (x := a) ah.right.left, aG.gJ (x := b) ah.right.right, ae]
   ·cases h
 | ey T =>
   simp only [bU, Option.map_eq_some_iff, Prod.mk.injEq] at h
   obtain ⟨d, al, rfl, rfl⟩ := h
   exact .pure fun az ah => by simp only [bU, al, Option.map_some]
 | c7 T x =>
   obtain ⟨ms, ai, aj, aP⟩ := Pd h
   refine ⟨ms, ai, aj, fun az ah => ?_⟩
   simp only [bU, aG.gJ (x := x) ah]
   exact aP az (ee.aR ah)
 | fX T ps =>
   obtain ⟨ms, ai, aj, aP⟩ := Pb h
   simp only [List.map_map, Function.comp_def] at aj aP
   refine ⟨ms, ai, aj, fun az ah => ?_⟩
   simp only [bU, aG.DA (ps := ps) ah]
   refine aP az (ah.sub fun u hu => ?_)
   simp only [use]
   exact aG.zh u (by simpa [List.map_map, Function.comp_def] using hu)
 | eh T n ps =>
   obtain ⟨ms, ai, aj, aP⟩ := Pc h
   simp only [List.map_map, Function.comp_def] at aj aP
   refine ⟨ms, ai, aj, fun az ah => ?_⟩
   simp only [bU, aG.DA (ps := ps) ah]
   refine aP az (ah.sub fun u hu => ?_)
   simp only [use]
   exact aG.zh u (by simpa [List.map_map, Function.comp_def] using hu)
 | aD T x =>
   simp only [bU, Option.map_eq_some_iff, Prod.mk.injEq] at h
   obtain ⟨d, al, rfl, rfl⟩ := h
   exact .pure fun az ah => by simp only [bU, aG.gJ (x := x) ah, O2 (ee.aR ah), al, Option.map_some]
 | cC T x y =>
   simp only [bU, Option.map_eq_some_iff, Prod.mk.injEq] at h
   obtain ⟨s2, al, rfl, rfl⟩ := h
   obtain ⟨ms, ai, aj, aP⟩ := Pf al
   refine ⟨ms, ai, aj, fun az ah => ?_⟩
   simp only [use] at ah
   simp only [bU, aG.gJ (x := x) ah.left, aG.gJ (x := y) ah.right]
   exact aP az (ah.sub fun u hu => by simp only [List.mem_append] at hu ⊢; exact hu.imp (aG.rC u) (aG.rC u))
 | dP x =>
   simp only [bU, Option.map_eq_some_iff, Prod.mk.injEq] at h
   obtain ⟨d, al, rfl, rfl⟩ := h
   exact .pure fun az ah => by simp only [bU, aG.gJ (x := x) ah, O_ (ee.aR ah), al, Option.map_some]
 | aq op T x y =>
   simp only [bU, Option.map_eq_some_iff, Prod.mk.injEq] at h
   obtain ⟨d, al, rfl, rfl⟩ := h
   refine .pure fun az ah => ?_
   simp only [use] at ah
   simp only [bU, aG.gJ (x := x) ah.left, aG.gJ (x := y) ah.right, O9 (ee.aR ah.left), al, Option.map_some]
 | un op x =>
   simp only [bU, Option.map_eq_some_iff, Prod.mk.injEq] at h
   obtain ⟨d, al, rfl, rfl⟩ := h
   exact .pure fun az ah => by simp only [bU, aG.gJ (x := x) ah, al, Option.map_some]
 | fW A B x =>
   simp only [bU, Option.map_eq_some_iff, Prod.mk.injEq] at h
   obtain ⟨d, al, rfl, rfl⟩ := h
   exact .pure fun az ah => by simp only [bU, aG.gJ (x := x) ah, O6 (ee.aR ah), al, Option.map_some]
 | ia f cs =>
   simp only [bU, Option.some.injEq, Prod.mk.injEq] at h
   obtain ⟨rfl, rfl⟩ := h
   exact .pure fun az ah => by simp only [bU, aG.Dz (xs := cs) ah]
 | eU T l c =>
   simp only [bU, Option.map_eq_some_iff, Prod.mk.injEq] at h
   obtain ⟨d, al, rfl, rfl⟩ := h
   refine .pure fun az ah => ?_
   simp only [use] at ah
   simp only [bU, aG.gJ (x := l) ah.left, aG.gJ (x := c) ah.right, al, Option.map_some]
 | fA T x de ar =>
   simp only [bU] at h
   obtain ⟨ms, ai, aj, aP⟩ := Pg h
   refine ⟨ms, ai, aj, fun az ah => ?_⟩
   simp only [use] at ah
   simp only [bU, aG.gJ (x := x) ah.left, Hx ah.right.left, Hx ah.right.right]
   exact aP az (ee.aR ah.left)
 | aU T x k =>
   simp only [bU, Option.map_eq_some_iff, Prod.mk.injEq] at h
   obtain ⟨d, al, rfl, rfl⟩ := h
   exact .pure fun az ah => by simp only [bU, aG.gJ (x := x) ah, O3 (ee.aR ah), al, Option.map_some]
 | bK T x i =>
   simp only [bU, Option.map_eq_some_iff, Prod.mk.injEq] at h
   obtain ⟨d, al, rfl, rfl⟩ := h
   refine .pure fun az ah => ?_
   simp only [use] at ah
   simp only [bU, aG.gJ (x := x) ah.left, aG.gJ (x := i) ah.right, O4 (ee.aR ah.left), al, Option.map_some]
 | idx T x i =>
   simp only [bU, Option.map_eq_some_iff, Prod.mk.injEq] at h
   obtain ⟨d, al, rfl, rfl⟩ := h
   refine .pure fun az ah => ?_
   simp only [use] at ah
   simp only [bU, aG.gJ (x := x) ah.left, aG.gJ (x := i) ah.right, al, Option.map_some]
 | ex x k =>
   simp only [bU, Option.map_eq_some_iff, Prod.mk.injEq] at h
   obtain ⟨d, al, rfl, rfl⟩ := h
   exact .pure fun az ah => by simp only [bU, aG.gJ (x := x) ah, Pa (ee.aR ah), al, Option.map_some]
 | call f args => simp [bU] at h
 | len T x =>
   simp only [bU, Option.map_eq_some_iff, Prod.mk.injEq] at h
   obtain ⟨d, al, rfl, rfl⟩ := h
   exact .pure fun az ah => by simp only [bU, aG.gJ (x := x) ah, O5 (ee.aR ah), al, Option.map_some]
 | app T bN x y =>
   obtain ⟨ms, ai, aj, aP⟩ := Pk h
   refine ⟨ms, ai, aj, fun az ah => ?_⟩
   simp only [use] at ah
   simp only [bU, aG.gJ (x := x) ah.left, aG.gJ (x := y) ah.right]
   exact aP az (ah.sub fun u hu => by simp only [List.mem_append] at hu ⊢; exact hu.imp (aG.rC u) (aG.rC u))
end
def I.one : I → Bool
 | .agg _ => false
 | .tuple _ => false
 | _ => true
mutual
def view (s : au) : I → Option I
 | .h x q => match I.sub q (s x) with
   | some d => (match d with | .tuple _ => none | d => if d.plain then none else some d.share)
   | none => none
 | .ax x q => if I.fI q (s x) then (match I.sub q (s x) with
   | some d => (match d with | .tuple _ => none | d => some (.ref d.share))
   | none => none) else none
 | .ae _ _ => none
 | .fn f cap => (views s cap).map (.fn f)
 | .hole => none
 | d => some d
def views (s : au) : List I → Option (List I)
 | [] => some []
 | d :: ds => match view s d, views s ds with
   | some a, some b => some (a :: b)
   | _, _ => none
end
mutual
theorem DF : ∀ d : I, d.share.plain = true
 | .hole => rfl
 | .bool _ => rfl
 | .fi => rfl
 | .int _ _ => rfl
 | .str _ => rfl
 | .dC => rfl
 | .bg => rfl
 | .slice _ => rfl
 | .aw _ _ => rfl
 | .ref _ => rfl
 | .a8 _ => rfl
 | .agg aB => by simp only [I.share, I.plain]; exact DG aB
 | .tuple aB => by simp only [I.share, I.plain]; exact DG aB
 | .fn _ _ => rfl
 | .h _ _ => rfl
 | .ax _ _ => rfl
 | .ae _ _ => rfl
theorem DG : ∀ ds : List I, I.dI (I.shares ds) = true
 | [] => rfl
 | d :: ds => by simp only [I.shares, I.dI]; rw [DF d, DG ds]; rfl
end
theorem Pl {s : au} {a d : I} (h : a.plain = true) (he : view s a = some d) : d.plain = true := by
 cases a with
 | h x q =>
   simp only [view] at he
   split at he
   ·rename_i e fm
    cases e <;> simp only at he <;> first
     | (cases he; done)
     | (split at he
        ·cases he
        ·simp only [Option.some.injEq] at he
         subst he; exact DF _)
   ·cases he
 | ax x q =>
   simp only [view] at he
   split at he
   ·split at he
    ·rename_i e fm
     cases e <;> simp only at he <;> first
      | (cases he; done)
      | (simp only [Option.some.injEq] at he; subst he; rfl)
    ·cases he
   ·cases he
 | fn f cap =>
   simp only [view, Option.map_eq_some_iff] at he
   obtain ⟨ds, _, rfl⟩ := he
   rfl
 | hole => simp [view] at he
 | ae y q => simp [view] at he
 | _ => simp only [view, Option.some.injEq] at he; subst he; exact h
theorem DH {d : I} {v : Value} (ai : ∀ vs, d ≠ .tuple vs) (h : eL d v) : eL d.share v := by
 cases d <;> first | exact h | exact (ai _ rfl).elim
theorem Pm (w : World) : ∀ (q : List Nat) (av d bE : I) (cs c0 : List Value) (a cS : Option (Nat × Nat)), I.sub q av = some d → bE.wd = d.wd → dq w q av cs a = some (d, c0, cS) →
  dq w q (I.put q bE av) cs a = some (bE, c0, cS) := by
 intro q
 induction q with
 | nil =>
   intro av d bE cs c0 a cS al hw h
   simp only [dq, Option.some.injEq, Prod.mk.injEq] at h
   obtain ⟨rfl, rfl, rfl⟩ := h
   simp only [I.put, dq]
 | cons k q ih =>
   intro av d bE cs c0 a cS al hw h
   cases av with
   | agg aB =>
     simp only [I.sub] at al
     split at al
     ·rename_i x aA
      have aE : k < aB.length := (List.getElem?_eq_some_iff.1 aA).1
      simp only [dq, aA] at h
      simp only [I.put, aA, dq]
      rw [List.getElem?_set_self aE]
      simp only [List.take_set_of_le (Nat.le_refl k), I.tk q x d bE al hw]
      exact ih _ _ _ _ _ _ _ al hw h
     ·cases al
   | tuple aB =>
     simp only [I.sub] at al
     split at al
     ·rename_i x aA
      have aE : k < aB.length := (List.getElem?_eq_some_iff.1 aA).1
      simp only [dq, aA] at h
      simp only [I.put, aA, dq]
      rw [List.getElem?_set_self aE]
      simp only [List.take_set_of_le (Nat.le_refl k), I.tk q x d bE al hw]
      exact ih _ _ _ _ _ _ _ al hw h
     ·cases al
   | aw sz aB =>
     simp only [I.sub] at al
     split at al
     ·rename_i x aA
      have aE : k < aB.length := (List.getElem?_eq_some_iff.1 aA).1
      have kB : (aB.set k (I.put q bE x))[k]? = some (I.put q bE x) := List.getElem?_set_self aE
      simp only [I.put, aA]
      rw [dq.eq_def] at h ⊢
      simp only [aA] at h
      simp only
      rw [kB]
      split at h
      ·rename_i a4
       simp only [Option.some.injEq] at a4; subst a4
       exact ih _ _ _ _ _ _ _ al hw h
      ·cases h
     ·cases al
   | a8 x =>
     cases k with
     | zero =>
       simp only [I.sub] at al
       rw [dq.eq_def] at h ⊢
       simp only at h
       simp only [I.put]
       split at h
       ·rw [I.tk q x d bE al hw]
        exact ih _ _ _ _ _ _ _ al hw h
       ·cases h
     | succ k => simp [I.sub] at al
   | _ => simp [I.sub] at al
section
variable {w0 w aS : World} {F0 X F Fc : Nat → Prop} {S : Nat → Nat → Prop} {s az : au} {aF jR : Nat → Value}
theorem Pn (h : bT w0 F0 X F S s aF w) (bD : ∀ b, F b → Fc b) : ∀ n,
  (∀ (a : I) (v : Value) (d : I), SizeOf.sizeOf a ≤ n → (∀ t ∈ a.ah, ∀ b, S t b → Fc b) → view s a = some d → aV w F s aF a v (fun _ => False) → aV w Fc az jR d v (fun _ => False)) ∧
  (∀ (as : List I) (vs : List Value) (ds : List I), SizeOf.sizeOf as ≤ n → (∀ t ∈ I.d_ as, ∀ b, S t b → Fc b) → views s as = some ds → eX w F s aF as vs → eX w Fc az jR ds vs) := by
 intro n
 induction n with
 | zero => exact ⟨fun a _ _ ca => by cases a <;> simp at ca <;> omega, fun as _ _ ca => by cases as <;> simp at ca <;> omega⟩
 | succ n ih =>
   refine ⟨fun a v d ca cb he a2 => ?_, fun as vs ds ca cb he a2 => ?_⟩
   ·cases a with
    | h x q =>
      simp only [view] at he
      split at he
      ·rename_i e fm
       have key : (∀ aB, e ≠ .tuple aB) ∧ e.plain = false ∧ d = e.share := by
        cases e <;> simp only at he <;> first
         | (cases he; done)
         | (split at he
            ·cases he
            ·rename_i fV
             simp only [Option.some.injEq] at he
             exact ⟨(fun _ h => by cases h), by simpa using fV, he.symm⟩)
       obtain ⟨l5, fV, rfl⟩ := key
       rw [aV] at a2
       obtain ⟨c0, cS, bc, bG, cB⟩ := a2 e fm fV
       have bh := iw fm (.inl fV)
       have aA := (aV.da bh).1 (h.en x)
       obtain ⟨gl, bj, e2, hc, k0, b8, cu, fB, eP, gr⟩ := ctx q (s x) (cV (aF x)) (S x) none e aA.2 fm
       rw [bc] at k0
       simp only [Option.some.injEq, Prod.mk.injEq, true_and] at k0
       obtain ⟨rfl, rfl⟩ := k0
       have CW : e.share.tree = true := by cases e <;> first | rfl | (simp [I.plain] at fV)
       have a7 := aC.shared bD e c0 hc (fun b ae => cb x (by simp [I.ah]) b (cu b ae)) eP
       exact (aV.da CW).2 ⟨DH l5 cB, by rw [bG]; exact a7⟩
      ·cases he
    | ax x q =>
      simp only [view] at he
      split at he
      ·rename_i nJ
       split at he
       ·rename_i e fm
        have key : (∀ aB, e ≠ .tuple aB) ∧ d = .ref e.share := by
         cases e <;> simp only at he <;> first
          | (cases he; done)
          | (simp only [Option.some.injEq] at he; exact ⟨(fun _ h => by cases h), he.symm⟩)
        obtain ⟨l5, rfl⟩ := key
        rw [aV] at a2
        obtain ⟨c0, b, o, bc, rfl⟩ := a2 e fm nJ
        have bh := iw fm (.inr nJ)
        have aA := (aV.da bh).1 (h.en x)
        obtain ⟨gl, bj, e2, hc, k0, b8, cu, fB, eP, gr⟩ := ctx q (s x) (cV (aF x)) (S x) none e aA.2 fm
        rw [bc] at k0
        simp only [Option.some.injEq, Prod.mk.injEq, true_and] at k0
        obtain ⟨rfl, rfl⟩ := k0
        have a7 := aC.shared bD e c0 hc (fun b ae => cb x (by simp [I.ah]) b (cu b ae)) eP
        rcases gr with ⟨l, r, _, a_, _⟩ | ⟨fU, cur, ty, fr, l, r, a4, a_, a3, c1, c6, _⟩
        ·simp at a_
        ·simp only [Option.some.injEq, Prod.mk.injEq] at a4
         obtain ⟨rfl, rfl⟩ := a4
         refine (aV.da rfl).2 ⟨rfl, ?_⟩
         rw [aC]
         refine ⟨b, l.length, c0, rfl, cb x (by simp [I.ah]) b (b8 b a_), ?_, a7⟩
         intro j c cx
         simp only [World.cell?, a3]
         have ay : cur[l.length + j]? = some c := by
          rw [← Array.getElem?_toList, c6, List.getElem?_append_right (by omega), List.getElem?_append_left (by
           have := (List.getElem?_eq_some_iff.1 cx).1; omega)]
          rw [← cx]; congr 1; omega
         simpa using ay
       ·cases he
      ·cases he
    | fn f cap =>
      simp only [view, Option.map_eq_some_iff] at he
      obtain ⟨ds, jb, rfl⟩ := he
      rw [aV] at a2
      obtain ⟨arr, rfl, ay⟩ := a2
      rw [aV]
      exact ⟨arr, rfl, ih.2 cap _ _ (by simp at ca; omega) (by simpa [I.ah] using cb) jb ay⟩
    | hole => simp [view] at he
    | ae y q => simp [view] at he
    | _ =>
      simp only [view, Option.some.injEq] at he; subst he
      have lz := (aV.da rfl).1 a2
      exact (aV.da rfl).2 ⟨lz.1, aC.mono bD _ _ _ _ (fun _ h => h) lz.2⟩
   ·cases as with
    | nil =>
      simp only [views, Option.some.injEq] at he; subst he
      rw [eX] at a2 ⊢; exact a2
    | cons a as =>
      simp only [views] at he
      split at he
      ·rename_i d ds ai aj
       simp only [Option.some.injEq] at he; subst he
       rw [eX] at a2 ⊢
       obtain ⟨v, kf, rfl, bc, bG⟩ := a2
       simp at ca
       simp only [I.d_, List.mem_append] at cb
       exact ⟨v, kf, rfl, ih.1 a v d (by omega) (fun t bh => cb t (.inl bh)) ai bc, ih.2 as kf ds (by omega) (fun t bh => cb t (.inr bh)) aj bG⟩
      ·cases he
theorem bT.iZ (h : bT w0 F0 X F S s aF w) {x : Nat} {q : List Nat} {d0 bE : I} {c0 : List Value} {a : Option (Nat × Nat)} {Sn : Nat → Prop}
  (al : I.sub q (s x) = some d0) (bF : dq w q (s x) (cV (aF x)) none = some (d0, c0, a)) (aj : ∀ vs, bE ≠ .tuple vs) (bh : q = [] → bE.tree = true ∧ eL bE (aF x))
  (aP : ∀ k p, q = k :: p → (s x).tree = true ∧ (∀ v, iv d0 v → iv bE v)) (hw : bE.wd = d0.wd)
  (a2 : aC w F bE c0 Sn) (fy : ∀ b, Sn b → b < w.heap.size) (bD : ∀ b, Sn b → ¬ F b) (cb : ∀ u b, Sn b → ¬ S u b) (ba : ∀ b, Sn b → X b ∨ w0.heap.size ≤ b) :
  bT w0 F0 X F (gq S x (fun b => S x b ∨ Sn b)) (dr (ly x s) x (I.put q bE (s x))) aF w := by
 have eT : dr aF x (aF x) = aF := by funext u; simp only [dr]; split <;> simp_all
 have main : (I.put q bE (s x)).tree = true ∧ eL (I.put q bE (s x)) (aF x) ∧ aC w F (I.put q bE (s x)) (cV (aF x)) (fun b => S x b ∨ Sn b) := by
  cases q with
  | nil =>
    simp only [dq, Option.some.injEq, Prod.mk.injEq] at bF
    obtain ⟨a4, a_, a3⟩ := bF
    obtain ⟨bc, bG⟩ := bh rfl
    simp only [I.put]
    refine ⟨bc, ?_, ?_⟩
    ·exact bG
    ·rw [a_]; exact aC.mono (fun _ h => h) _ _ _ _ (fun b ae => .inr ae) a2
  | cons k p =>
    obtain ⟨bc, bG⟩ := aP k p rfl
    have aA := (aV.da bc).1 (h.en x)
    obtain ⟨gl, bj, e2, hc, k0, b8, cu, fB, eP, gr⟩ := ctx (k :: p) (s x) (cV (aF x)) (S x) none d0 aA.2 al
    rw [bF] at k0
    simp only [Option.some.injEq, Prod.mk.injEq, true_and] at k0
    obtain ⟨rfl, rfl⟩ := k0
    refine ⟨?_, ?_, ?_⟩
    ·rcases rb k p bE (s x) with ⟨aB, gs, a4, e⟩ | ⟨aB, gs, a4, e⟩ | ⟨sz, xs, c4, a4, e⟩ | ⟨y, z, a4, e⟩ | e <;> rw [e] <;> first | rfl | exact bc
    ·refine CQ aA.1 al bG (fun _ vs e => (aj vs e).elim) hw
    ·have mono : ∀ b, (e2 b ∨ Sn b) → (S x b ∨ Sn b) := fun b ae => ae.imp (b8 b) id
     rcases gr with ⟨l, r, a4, a_, a3⟩ | ⟨b, cur, ty, fr, l, r, a4, a_, a3, c1, c6, cl⟩
     ·rw [a4]
      exact aC.mono (fun _ h => h) _ _ _ _ mono (a3 w bE c0 Sn (fun _ _ => rfl) (fun _ _ => rfl) hw a2 (fun b ae ay => cb x b ae (b8 b ay)))
     ·refine aC.mono (fun _ h => h) _ _ _ _ mono (cl w bE c0 Sn (fun _ _ => rfl) (fun _ _ _ => rfl) ?_ hw a2 (fun b ae ay => cb x b ae (b8 b ay)))
      rw [a3, ← c6]
 have := h.Gu (t := x) main.1 main.2.1 main.2.2 (by rintro b (ae | ae); exact h.fz x b ae; exact fy b ae) (by rintro b (ae | ae); exact h.gH x b ae; exact bD b ae)
  (by rintro u b eb (ae | ae); exact fun hu => h.gm u x b eb hu ae; exact cb u b ae) (by rintro b (ae | ae); exact h.ew x b ae; exact ba b ae)
 rwa [eT] at this
end
mutual
def I.cW : I → Bool
 | .slice _ => false
 | .ref _ => false
 | .fn _ _ => false
 | .h _ _ => false
 | .ax _ _ => false
 | .ae _ _ => false
 | .aw _ xs => I.hJ xs
 | .a8 d => d.cW
 | .agg aB => I.hJ aB
 | .tuple aB => I.hJ aB
 | _ => true
def I.hJ : List I → Bool
 | [] => true
 | d :: ds => d.cW && I.hJ ds
end
mutual
theorem aC.cW {w : World} {F bV : Nat → Prop} : ∀ (d : I) (cs : List Value) (S : Nat → Prop), d.cW = true → aC w F d cs S → aC w bV d cs S
 | .hole, _, _, _, h => h
 | .bool _, _, _, _, h => h
 | .fi, _, _, _, h => h
 | .int _ _, _, _, _, h => h
 | .str _, _, _, _, h => h
 | .dC, _, _, _, h => h
 | .bg, _, _, _, h => h
 | .slice xs, cs, S, bd, h => by simp [I.cW] at bd
 | .ref d, cs, S, bd, h => by simp [I.cW] at bd
 | .aw sz xs, cs, S, bd, h => by
   rw [aC] at h ⊢
   rcases h with h | ⟨b, cap, cur, e, fr, a1, ai, aj, aP, bb, b5, cF, cq, fO, iI, hO, k9⟩
   ·exact .inl h
   ·exact .inr ⟨b, cap, cur, e, fr, a1, ai, aj, aP, bb, b5, cF, cq, fO, bl.cW xs _ _ bd iI, hO, k9⟩
 | .a8 d, cs, S, bd, h => by
   rw [aC] at h ⊢
   obtain ⟨b, cur, e, fr, a1, ai, aj, aP, bb, b5, cF, cq⟩ := h
   exact ⟨b, cur, e, fr, a1, ai, aj, aP, bb, aC.cW d _ _ bd b5, cF, cq⟩
 | .agg aB, cs, S, bd, h => by rw [aC] at h ⊢; exact bl.cW aB _ _ bd h
 | .tuple aB, cs, S, bd, h => by rw [aC] at h ⊢; exact bl.cW aB _ _ bd h
 | .fn _ _, _, _, _, h => h
 | .h _ _, _, _, _, h => h
 | .ax _ _, _, _, _, h => h
 | .ae _ _, _, _, _, h => h
theorem bl.cW {w : World} {F bV : Nat → Prop} : ∀ (ds : List I) (cs : List Value) (S : Nat → Prop), I.hJ ds = true → bl w F ds cs S → bl w bV ds cs S
 | [], _, _, _, h => h
 | d :: ds, cs, S, bd, h => by
   simp only [I.hJ, Bool.and_eq_true] at bd
   rw [bl] at h ⊢
   obtain ⟨cv, cE, ct, el, ai, aj, aP, bb, b5, cF⟩ := h
   exact ⟨cv, cE, ct, el, ai, aC.cW d _ _ bd.1 aj, bl.cW ds _ _ bd.2 aP, bb, b5, cF⟩
end
theorem HE : ∀ (q : List Nat) (av d e : I), I.sub q av = some d → I.sub q (I.put q e av) = some e := by
 intro q
 induction q with
 | nil => intro av d e _; simp [I.put, I.sub]
 | cons k q ih =>
   intro av d e h
   cases av with
   | agg aB =>
     simp only [I.sub] at h
     split at h
     ·rename_i x aA
      have aE : k < aB.length := (List.getElem?_eq_some_iff.1 aA).1
      simp only [I.put, aA, I.sub, List.getElem?_set_self aE]
      exact ih _ _ _ h
     ·cases h
   | tuple aB =>
     simp only [I.sub] at h
     split at h
     ·rename_i x aA
      have aE : k < aB.length := (List.getElem?_eq_some_iff.1 aA).1
      simp only [I.put, aA, I.sub, List.getElem?_set_self aE]
      exact ih _ _ _ h
     ·cases h
   | aw sz aB =>
     simp only [I.sub] at h
     split at h
     ·rename_i x aA
      have aE : k < aB.length := (List.getElem?_eq_some_iff.1 aA).1
      simp only [I.put, aA, I.sub, List.getElem?_set_self aE]
      exact ih _ _ _ h
     ·cases h
   | a8 x =>
     cases k with
     | zero => simp only [I.sub] at h; simp only [I.put, I.sub]; exact ih _ _ _ h
     | succ k => simp [I.sub] at h
   | _ => simp [I.sub] at h
structure cL where
 a : I
 g : Bool
 d : I
 o : I
def I.own : I → Bool
 | .aw _ _ => true
 | .a8 _ => true
 | _ => false
def I.gD : I → Bool
 | .aw _ _ => true
 | .a8 _ => true
 | .agg aB => !I.dI aB
 | _ => false
def rF (d o : I) : Bool := match d, o with
 | .agg a, .agg b => I.ev a == I.ev b
 | .agg _, _ => false
 | _, .agg _ => false
 | _, _ => true
theorem qk {d : I} (h : d.gD = true) : d.plain = false ∧ d.tree = true ∧ ∀ vs, d ≠ .tuple vs := by
 cases d <;> simp [I.gD] at h <;> first | exact ⟨rfl, rfl, fun vs e => by cases e⟩ | exact ⟨by simp only [I.plain]; exact h, rfl, fun vs e => by cases e⟩
theorem Po {d o : I} (h : d.gD = true) (cm : o.gD = true) (hl : rF d o = true) : o.wd = d.wd ∧ (∀ v, eL d v → eL o v) ∧ ∀ v, iv d.dh v → iv o v := by
 cases d <;> simp [I.gD] at h <;> cases o <;> simp [I.gD] at cm <;> simp [rF] at hl <;> first
  | exact ⟨rfl, fun _ h => h, fun _ h => h⟩
  | exact ⟨by simp only [I.wd]; exact hl.symm, fun _ h => h, fun _ h => h⟩
def cL.ok (s : au) (p : cL) : Prop :=
 if p.g then (match p.a with | .h x q => I.sub q (s x) = some p.d ∧ p.d.gD = true ∧ (p.o = .hole ∨ (p.o.gD = true ∧ rF p.d p.o = true)) | _ => False)
 else view s p.a = some p.d
def ib : List cL → Bool
 | [] => true
 | p :: r => (r.all fun cA => !(p.g || cA.g) || (p.a.ah.all fun u => !cA.a.ah.contains u)) && ib r
def cL.take (s : au) (p : cL) : au :=
 if p.g then (match p.a with | .h x q => dr (iJ x s) x (I.put q p.d.dh (s x)) | _ => s) else s
def cL.iZ (s : au) (p : cL) : au :=
 if p.g then (match p.a, p.o with | _, .hole => s | .h x q, o => dr (ly x s) x (I.put q o (s x)) | _, _ => s) else s
def fb (s : au) (ps : List cL) : au := ps.foldl cL.take s
def hK (s : au) (ps : List cL) : au := ps.foldl cL.iZ s
section
variable {w0 w aS : World} {F0 X F Fc : Nat → Prop} {S : Nat → Nat → Prop} {s az : au} {aF jR : Nat → Value}
def Pp (w : World) (F : Nat → Prop) (s1 : au) (aF : Nat → Value) (p : cL) (v : Value) (Sn : Nat → Prop) : Prop :=
 ∃ x q J, p.a = .h x q ∧ I.sub q (s1 x) = some p.d.dh ∧ dq w q (s1 x) (cV (aF x)) none = some (p.d.dh, cV v, J) ∧ (s1 x).ah = [] ∧ (q = [] → eL p.d (aF x)) ∧ (q ≠ [] → (s1 x).tree = true) ∧
   eL p.d v ∧ aC w F p.d (cV v) Sn
theorem Pq {p : cL} {x : Nat} (h : (s x).ah = []) (ax : p.g = true → x ∉ p.a.ah) : cL.take s p x = s x := by
 unfold cL.take
 split
 ·rename_i b6
  cases cw : p.a with
  | h y q =>
    have : x ≠ y := by
     have := ax b6
     rw [cw] at this
     simpa [I.ah] using this
    simp only
    rw [jl _ _ this]
    exact vZ _ (by rw [h]; simp)
  | _ => rfl
 ·rfl
theorem DI : ∀ {ps : List cL} {s : au} {x : Nat}, (s x).ah = [] → (∀ p ∈ ps, p.g = true → x ∉ p.a.ah) → fb s ps x = s x := by
 intro ps
 induction ps with
 | nil => intros; rfl
 | cons p ps ih =>
   intro s x h ax
   have e := Pq (s := s) (p := p) h (ax p (by simp))
   show fb (cL.take s p) ps x = s x
   rw [ih (by rw [e]; exact h) (fun cA eQ => ax cA (by simp [eQ])), e]
theorem pE {d : I} (h : d.own = true) : d.plain = false ∧ d.tree = true ∧ d.dh = .hole ∧ d.one = true ∧ d.wd = 1 ∧ (∀ v, eL d v ↔ Value.gU v = true) := by
 cases d <;> simp [I.own] at h <;> exact ⟨rfl, rfl, rfl, rfl, rfl, fun v => Iff.rfl⟩
theorem Pr : ∀ (ps : List cL) (vs : List Value) (s : au) (S : Nat → Nat → Prop), bT w0 F0 X F S s aF w → ps.length = vs.length →
  (∀ (i : Nat) (p : cL) (v : Value), ps[i]? = some p → vs[i]? = some v → p.a.plain = true ∧ aV w F s aF p.a v (fun _ => False) ∧ (p.g = true → p.ok s)) → ib ps = true →
  ∃ (Sn ct : Nat → Nat → Prop), bT w0 F0 X F ct (fb s ps) aF w ∧ (∀ u b, ct u b → S u b) ∧
    (∀ (i : Nat) (p : cL) (v : Value), ps[i]? = some p → vs[i]? = some v → p.g = true → Pp w F (fb s ps) aF p v (Sn i)) ∧
    (∀ i b, Sn i b → ∃ p, ps[i]? = some p ∧ p.g = true) ∧
    (∀ i b, Sn i b → ∃ u, S u b) ∧ (∀ i u b, Sn i b → ¬ ct u b) ∧ (∀ i j b, i ≠ j → Sn i b → ¬ Sn j b) ∧
    (∀ (bE : I) (gC : Value) (a1 : Nat → Prop), (∀ p ∈ ps, p.g = true → ∀ u ∈ p.a.ah, u ∉ bE.ah) → aV w F s aF bE gC a1 → aV w F (fb s ps) aF bE gC a1) := by
 intro ps
 induction ps with
 | nil =>
   intro vs s S h hl _ _
   exact ⟨fun _ _ => False, S, h, fun _ _ h => h, fun i p v ax => by simp at ax, fun _ _ h => h.elim, fun _ _ h => h.elim, fun _ _ _ h => h.elim, fun _ _ _ _ h => h.elim, fun _ _ _ _ h => h⟩
 | cons p ps ih =>
   intro vs s S h hl vT kD
   cases vs with
   | nil => simp at hl
   | cons v vs =>
     simp only [List.length_cons, Nat.add_right_cancel_iff] at hl
     simp only [ib, Bool.and_eq_true, List.all_eq_true, Bool.or_eq_true, Bool.not_eq_true'] at kD
     obtain ⟨nT, nd⟩ := kD
     have tF : ∀ cA ∈ ps, (p.g = true ∨ cA.g = true) → ∀ u ∈ p.a.ah, u ∉ cA.a.ah := by
      intro cA eQ b6 u hu
      rcases nT cA eQ with e | e
      ·rcases b6 with b6 | b6 <;> simp [b6] at e
      ·simpa using e u hu
     obtain ⟨f1, f2, f3⟩ := vT 0 p v rfl rfl
     cases b6 : p.g with
     | false =>
       have gu : cL.take s p = s := by simp [cL.take, b6]
       obtain ⟨Sn, ct, bc, bG, cB, eC, fH, h9, iL, ld⟩ := ih vs s S h hl (fun i cA gC ax a2 => vT (i + 1) cA gC (by simpa using ax) (by simpa using a2)) nd
       have a4 : fb s (p :: ps) = fb s ps := by show fb (cL.take s p) ps = _; rw [gu]
       rw [a4]
       refine ⟨fun i => match i with | 0 => fun _ => False | i + 1 => Sn i, ct, bc, bG, ?_, ?_, ?_, ?_, ?_, fun bE gC a1 al => ld bE gC a1 fun cA eQ => al cA (by simp [eQ])⟩
       ·intro i cA gC ax a2 hI
        cases i with
        | zero => simp at ax; subst ax; rw [b6] at hI; cases hI
        | succ i => exact cB i cA gC (by simpa using ax) (by simpa using a2) hI
       ·intro i b ae
        cases i with
        | zero => exact ae.elim
        | succ i => simpa using eC i b ae
       ·intro i b ae
        cases i with
        | zero => exact ae.elim
        | succ i => exact fH i b ae
       ·intro i u b ae
        cases i with
        | zero => exact ae.elim
        | succ i => exact h9 i u b ae
       ·intro i j b eb ar cx
        cases i with
        | zero => exact ar.elim
        | succ i =>
          cases j with
          | zero => exact cx.elim
          | succ j => exact iL i j b (by omega) ar cx
     | true =>
       have gd := f3 b6
       simp only [cL.ok, b6, if_true] at gd
       split at gd
       ·rename_i x q cw
        obtain ⟨fm, DJ, vD⟩ := gd
        obtain ⟨mF, kF, nU⟩ := qk DJ
        have Ps : cT s p.a = some (p.d, dr (iJ x s) x (I.put q p.d.dh (s x))) := by
         rw [cw]; simp only [cT, fm, mF]; rfl
        obtain ⟨ct, t1, t2, t3, Pt, t4, t5, t6, t7, t8, t9, t10, t11⟩ := qc h f1 f2 Ps
        have gu : cL.take s p = dr (iJ x s) x (I.put q p.d.dh (s x)) := by simp [cL.take, b6, cw]
        have oV : ∀ cA ∈ ps, x ∉ cA.a.ah := fun cA eQ => tF cA eQ (.inl b6) x (by rw [cw]; simp [I.ah])
        have DK : cL.take s p x = I.put q p.d.dh (s x) := by rw [gu, lX]
        have zj : (cL.take s p x).ah = [] := by
         rw [DK]; exact v5 q _ _ _ fm (.inl mF) (fun _ => by cases al : p.d <;> first | rfl | (rw [al] at DJ; simp [I.gD] at DJ))
        obtain ⟨Sn, el, bc, bG, cB, eC, fH, h9, iL, ld⟩ := ih vs (cL.take s p) ct (by rw [gu]; exact t1) hl (by
         intro i cA gC ax a2
         obtain ⟨b8, cu, fB⟩ := vT (i + 1) cA gC (by simpa using ax) (by simpa using a2)
         have hm : cA ∈ ps := List.mem_of_getElem? ax
         refine ⟨b8, ?_, ?_⟩
         ·have := t11 _ _ _ cu
          rw [cw] at this
          rw [gu]
          simp only [I.owner, kg] at this
          rwa [vZ _ (oV cA hm)] at this
         ·intro hI
          have := fB hI
          simp only [cL.ok, hI, if_true] at this ⊢
          split at this
          ·rename_i y ja rG
           have eb : y ≠ x := fun e => oV cA hm (by rw [rG, e]; simp [I.ah])
           rw [gu, jl _ _ eb]
           have bh := iw this.1 (.inl (qk this.2.1).1)
           simp only [iJ, CO bh]
           exact this
          ·exact this.elim) nd
        have a4 : fb s (p :: ps) = fb (cL.take s p) ps := rfl
        have ql : fb (cL.take s p) ps x = I.put q p.d.dh (s x) := by
         rw [DI zj (fun cA eQ _ => oV cA eQ), DK]
        rw [a4]
        refine ⟨fun i => match i with | 0 => Pt | i + 1 => Sn i, el, bc, fun u b ae => t9 u b (bG u b ae), ?_, ?_, ?_, ?_, ?_, ?_⟩
        rotate_left 5
        ·intro bE gC a1 al i0
         refine ld bE gC a1 (fun cA eQ => al cA (by simp [eQ])) ?_
         have := t11 _ _ _ i0
         rw [cw] at this
         rw [gu]
         simp only [I.owner, kg] at this
         rwa [vZ _ (al p (by simp) b6 x (by rw [cw]; simp [I.ah]))] at this
        ·intro i cA gC ax a2 hI
         cases i with
         | zero =>
           simp at ax a2; subst ax a2
           have zk := f2
           rw [cw, aV] at zk
           obtain ⟨c0, J, cv, cE, lh⟩ := zk _ fm mF
           refine ⟨x, q, J, cw, ?_, ?_, ?_, ?_, ?_, t3, t4⟩
           ·rw [ql]; exact HE q _ _ _ fm
           ·rw [ql, cE]; exact Pm w q _ _ _ _ _ _ _ fm (I.p_ _) cv
           ·rw [ql, ← DK]; exact zj
           ·intro dc; subst dc
            simp only [I.sub, Option.some.injEq] at fm
            have := (aV.da (by rw [fm]; exact kF)).1 (h.en x)
            rw [fm] at this
            exact this.1
           ·intro dc
            have bh := iw fm (.inl mF)
            rw [ql]
            cases q with
            | nil => exact (dc rfl).elim
            | cons k q => rcases rb k q p.d.dh (s x) with ⟨aB, gs, a4, e⟩ | ⟨aB, gs, a4, e⟩ | ⟨sz, xs, c4, a4, e⟩ | ⟨y, z, a4, e⟩ | e <;> rw [e] <;> first | rfl | exact bh
         | succ i => exact cB i cA gC (by simpa using ax) (by simpa using a2) hI
        ·intro i b ae
         cases i with
         | zero => exact ⟨p, rfl, b6⟩
         | succ i => simpa using eC i b ae
        ·intro i b ae
         cases i with
         | zero => exact t10 b ae
         | succ i => obtain ⟨u, hu⟩ := fH i b ae; exact ⟨u, t9 u b hu⟩
        ·intro i u b ae
         cases i with
         | zero => exact fun hu => t7 u b ae (bG u b hu)
         | succ i => exact h9 i u b ae
        ·intro i j b eb ar cx
         cases i with
         | zero =>
           cases j with
           | zero => exact eb rfl
           | succ j => obtain ⟨u, hu⟩ := fH j b cx; exact t7 u b ar hu
         | succ i =>
           cases j with
           | zero => obtain ⟨u, hu⟩ := fH i b ar; exact t7 u b cx hu
           | succ j => exact iL i j b (by omega) ar cx
       ·exact gd.elim
end
def gf (l : List I) : au := fun i => l.getD i .hole
def hL (l : List Value) : Nat → Value := fun i => l.getD i undef
def nf (P : Program) (f : FuncId) (args : Array Value) (w : World) (v7 : Value → World → Prop) : Prop :=
 ((callFunc f args).run P w = .ok (.enter f args) w ∧ Calls P f args w (fun e aS => ∃ v, e = .returned v ∧ v7 v aS)) ∨
 ∃ v aS, (callFunc f args).run P w = .ok (.value v) aS ∧ v7 v aS
theorem nf.mono {P : Program} {f : FuncId} {args : Array Value} {w : World} {v7 HF : Value → World → Prop} (h : nf P f args w v7) (a7 : ∀ v aS, v7 v aS → HF v aS) : nf P f args w HF := by
 rcases h with ⟨ai, aj⟩ | ⟨v, aS, ai, aj⟩
 ·exact .inl ⟨ai, Calls.mono aj fun e aS ⟨v, e, h⟩ => ⟨v, e, a7 v aS h⟩⟩
 ·exact .inr ⟨v, aS, ai, a7 v aS aj⟩
def aT (C : cn) (f : FuncId) (as : List I) (r : I) (outs : List I) : Prop :=
 ∀ (w : World) (F X : Nat → Prop) (S : Nat → Nat → Prop) (vs : List Value), vs.length = as.length → bT w F X F S (gf as) (hL vs) w →
   nf C.P f vs.toArray w fun v aS => ∃ bV a1, bT w F X bV a1 (gf (r :: outs)) (hL (v :: vs)) aS
def I.res : I → Bool
 | .h _ _ => false
 | .ax _ _ => false
 | .ae _ _ => false
 | .fn _ _ => false
 | _ => true
theorem DL {d : I} (h : d.tree = true) : d.ah = [] := by cases d <;> first | rfl | (simp [I.tree] at h)
mutual
theorem DM {s az : au} : ∀ (a : I) (d : I), (∀ u ∈ a.ah, (s u).tree = true → az u = s u) → view s a = some d → view az a = some d
 | .h x q, d, hu, h => by
   have bh : (s x).tree = true := by
    simp only [view] at h
    split at h
    ·rename_i e fm
     cases e <;> simp only at h <;> first
      | (cases h; done)
      | (split at h
         ·cases h
         ·rename_i ax
          exact iw fm (.inl (by simpa using ax)))
    ·cases h
   simp only [view] at h ⊢
   rw [hu x (by simp [I.ah]) bh]; exact h
 | .ax x q, d, hu, h => by
   have bh : (s x).tree = true := by
    simp only [view] at h
    split at h
    ·rename_i ay
     split at h
     ·rename_i e fm; exact iw fm (.inr ay)
     ·cases h
    ·cases h
   simp only [view] at h ⊢
   rw [hu x (by simp [I.ah]) bh]; exact h
 | .ae x q, d, hu, h => by simp [view] at h
 | .fn f cap, d, hu, h => by
   simp only [view, Option.map_eq_some_iff] at h ⊢
   obtain ⟨ds, ai, aj⟩ := h
   exact ⟨ds, HG cap ds (by simpa [I.ah] using hu) ai, aj⟩
 | .hole, d, hu, h => h
 | .bool _, d, hu, h => h
 | .fi, d, hu, h => h
 | .int _ _, d, hu, h => h
 | .str _, d, hu, h => h
 | .dC, d, hu, h => h
 | .bg, d, hu, h => h
 | .slice _, d, hu, h => h
 | .aw _ _, d, hu, h => h
 | .ref _, d, hu, h => h
 | .a8 _, d, hu, h => h
 | .agg _, d, hu, h => h
 | .tuple _, d, hu, h => h
theorem HG {s az : au} : ∀ (as : List I) (ds : List I), (∀ u ∈ I.d_ as, (s u).tree = true → az u = s u) → views s as = some ds → views az as = some ds
 | [], ds, hu, h => h
 | a :: as, ds, hu, h => by
   simp only [I.d_, List.mem_append] at hu
   simp only [views] at h ⊢
   split at h
   ·rename_i x y ai aj
    rw [DM a x (fun u hm => hu u (.inl hm)) ai, HG as y (fun u hm => hu u (.inr hm)) aj]; exact h
   ·cases h
end
section
variable {C : cn} {w0 w aS : World} {F0 X F Fc : Nat → Prop} {S : Nat → Nat → Prop} {s az : au} {aF jR : Nat → Value}
def Pu (w : World) (F : Nat → Prop) (s : au) (aF : Nat → Value) (p : cL) (v : Value) (ng : Nat → Prop) : Prop :=
 p.g = true → p.o = .hole ∨ ∃ x q J d0, p.a = .h x q ∧ I.sub q (s x) = some d0 ∧ dq w q (s x) (cV (aF x)) none = some (d0, cV v, J) ∧ (s x).ah = [] ∧
  (q = [] → eL p.o (aF x)) ∧ (q ≠ [] → (s x).tree = true) ∧ p.o.gD = true ∧ aC w F p.o (cV v) ng ∧ p.o.wd = d0.wd ∧ ∀ v, iv d0 v → iv p.o v
theorem Pv : ∀ (ps : List cL) (vs : List Value) (s : au) (S ng : Nat → Nat → Prop), bT w0 F0 X F S s aF w → ps.length = vs.length →
  (∀ (i : Nat) (p : cL) (v : Value), ps[i]? = some p → vs[i]? = some v → Pu w F s aF p v (ng i)) →
  (∀ i b, ng i b → b < w.heap.size ∧ ¬ F b ∧ (X b ∨ w0.heap.size ≤ b) ∧ ∀ u, ¬ S u b) → (∀ i j b, i ≠ j → ng i b → ¬ ng j b) → ib ps = true →
  ∃ el, bT w0 F0 X F el (hK s ps) aF w ∧ ∀ u b, el u b → S u b ∨ ∃ i, ng i b := by
 intro ps
 induction ps with
 | nil => intro vs s S ng h _ _ _ _ _; exact ⟨S, h, fun u b ae => .inl ae⟩
 | cons p ps ih =>
   intro vs s S ng h hl DN ae al kD
   cases vs with
   | nil => simp at hl
   | cons v vs =>
     simp only [List.length_cons, Nat.add_right_cancel_iff] at hl
     simp only [ib, Bool.and_eq_true, List.all_eq_true, Bool.or_eq_true, Bool.not_eq_true'] at kD
     obtain ⟨nT, nd⟩ := kD
     have tF : ∀ cA ∈ ps, (p.g = true ∨ cA.g = true) → ∀ u ∈ p.a.ah, u ∉ cA.a.ah := by
      intro cA eQ b6 u hu
      rcases nT cA eQ with e | e
      ·rcases b6 with b6 | b6 <;> simp [b6] at e
      ·simpa using e u hu
     have skip : cL.iZ s p = s → ∃ el, bT w0 F0 X F el (hK s (p :: ps)) aF w ∧ ∀ u b, el u b → S u b ∨ ∃ i, ng i b := by
      intro gu
      obtain ⟨el, bc, bG⟩ := ih vs s S (fun i => ng (i + 1)) h hl (fun i cA gC ax a2 => DN (i + 1) cA gC (by simpa using ax) (by simpa using a2)) (fun i b h => ae (i + 1) b h)
       (fun i j b eb => al (i + 1) (j + 1) b (by omega)) nd
      refine ⟨el, ?_, fun u b hu => (bG u b hu).imp id fun ⟨i, ar⟩ => ⟨i + 1, ar⟩⟩
      show bT _ _ _ _ _ (hK (cL.iZ s p) ps) _ _
      rw [gu]; exact bc
     cases b6 : p.g with
     | false => exact skip (by simp [cL.iZ, b6])
     | true =>
       rcases DN 0 p v rfl rfl b6 with cm | ⟨x, q, J, d0, cw, cv, cE, lh, lZ, rH, DO, DP, DQ, DR⟩
       ·exact skip (by simp only [cL.iZ, b6, cm, if_true])
       ·obtain ⟨mF, kF, qm⟩ := qk DO
        have gu : cL.iZ s p = dr (ly x s) x (I.put q p.o (s x)) := by
         simp only [cL.iZ, b6, if_true, cw]
         cases Pw : p.o <;> first | rfl | (rw [Pw] at DO; simp [I.gD] at DO)
        have step := h.iZ (x := x) (q := q) (bE := p.o) cv cE qm (fun dc => ⟨kF, lZ dc⟩) (fun k r dc => ⟨rH (by rw [dc]; simp), DR⟩) DQ DP
         (fun b h => (ae 0 b h).1) (fun b h => (ae 0 b h).2.1) (fun u b h => (ae 0 b h).2.2.2 u) (fun b h => (ae 0 b h).2.2.1)
        rw [← gu] at step
        obtain ⟨el, bc, bG⟩ := ih vs (cL.iZ s p) _ (fun i => ng (i + 1)) step hl (by
         intro i cA gC ax a2 hI
         have hm : cA ∈ ps := List.mem_of_getElem? ax
         rcases DN (i + 1) cA gC (by simpa using ax) (by simpa using a2) hI with cm | ⟨y, ja, ab, d1, b8, cu, fB, eP, gr, dG, jZ, eD, lC⟩
         ·exact .inl cm
         ·have eb : y ≠ x := fun e => tF cA hm (.inl b6) x (by rw [cw]; simp [I.ah]) (by rw [b8, e]; simp [I.ah])
          have mA : cL.iZ s p y = s y := by
           rw [gu, jl _ _ eb]
           exact Dw _ (by rw [eP]; simp)
          exact .inr ⟨y, ja, ab, d1, b8, by rw [mA]; exact cu, by rw [mA]; exact fB, by rw [mA]; exact eP, gr, by rw [mA]; exact dG, jZ, eD, lC⟩)
         (by
          intro i b ar
          obtain ⟨j0, h_, l1, bk⟩ := ae (i + 1) b ar
          refine ⟨j0, h_, l1, fun u hu => ?_⟩
          simp only [gq] at hu
          split at hu
          ·rcases hu with hu | hu
           ·exact bk _ hu
           ·exact al 0 (i + 1) b (by omega) hu ar
          ·exact bk _ hu)
         (fun i j b eb => al (i + 1) (j + 1) b (by omega)) nd
        refine ⟨el, bc, fun u b hu => ?_⟩
        rcases bG u b hu with hu | ⟨i, ar⟩
        ·simp only [gq] at hu
         split at hu
         ·rename_i e; subst e
          exact hu.imp id fun h => ⟨0, h⟩
         ·exact .inl hu
        ·exact .inr ⟨i + 1, ar⟩
def jB (ps : List cL) : Bool := ps.any fun p => !p.g && !p.a.ah.isEmpty
theorem HH (h : bT w0 F0 X F S s aF w) {ps : List cL} {vs : List Value} {f : FuncId} {r : I} (hl : ps.length = vs.length)
  (i0 : ∀ (i : Nat) (p : cL) (v : Value), ps[i]? = some p → vs[i]? = some v → p.a.plain = true ∧ aV w F s aF p.a v (fun _ => False))
  (gd : ∀ p ∈ ps, p.ok s) (kD : ib ps = true) (bF : ∀ (Fc lF : Nat → Prop) (e2 : Nat → Nat → Prop), (∀ b, F b → Fc b) → (∀ b, lF b → ∃ u, S u b) → bT w Fc lF Fc e2 (gf (ps.map (·.d))) (hL vs) w →
   nf C.P f vs.toArray w fun v aS => ∃ bV a1, bT w Fc lF bV a1 (gf (r :: ps.map (·.o))) (hL (v :: vs)) aS) (a7 : r.res = true)
  (bd : jB ps = true → r.cW = true ∧ ∀ p ∈ ps, p.o.cW = true) :
  nf C.P f vs.toArray w fun v aS => ∃ bV a1, bT w0 F0 X bV a1 (hK (fb s ps) ps) aF aS ∧ kT w0 X bV a1 (hK (fb s ps) ps) aF aS r v ∧ ∀ b, F b → bV b ∧ aS.heap[b]? = w.heap[b]? := by
 obtain ⟨Sn, ct, bc, bG, cB, eC, fH, h9, iL, ld⟩ := Pr ps vs s S h hl (fun i p v ax a2 => ⟨(i0 i p v ax a2).1, (i0 i p v ax a2).2, fun _ => gd p (List.mem_of_getElem? ax)⟩) kD
 have apart : ∀ (i j : Nat) (p cA : cL), ps[i]? = some p → ps[j]? = some cA → i ≠ j → (p.g = true ∨ cA.g = true) → ∀ u ∈ p.a.ah, u ∉ cA.a.ah := by
  clear i0 gd bF bd bc cB eC ld hl
  induction ps with
  | nil => intro i j p cA ax; simp at ax
  | cons h5 ps ih =>
    simp only [ib, Bool.and_eq_true, List.all_eq_true, Bool.or_eq_true, Bool.not_eq_true'] at kD
    obtain ⟨nT, nd⟩ := kD
    have tF : ∀ cA ∈ ps, (h5.g = true ∨ cA.g = true) → ∀ u ∈ h5.a.ah, u ∉ cA.a.ah := by
     intro cA eQ b6 u hu
     rcases nT cA eQ with e | e
     ·rcases b6 with b6 | b6 <;> simp [b6] at e
     ·simpa using e u hu
    intro i j p cA ax eQ eb b6 u hu
    cases i with
    | zero =>
      simp at ax; subst ax
      cases j with
      | zero => exact (eb rfl).elim
      | succ j => exact tF cA (List.mem_of_getElem? (by simpa using eQ)) b6 u hu
    | succ i =>
      cases j with
      | zero =>
        simp at eQ; subst eQ
        exact fun v8 => tF p (List.mem_of_getElem? (by simpa using ax)) b6.symm u v8 hu
      | succ j => exact ih nd i j p cA (by simpa using ax) (by simpa using eQ) (by omega) b6 u hu
 let Fc : Nat → Prop := fun b => F b ∨ (jB ps = true ∧ ∃ u, ct u b)
 let lF : Nat → Prop := fun b => ∃ i, Sn i b
 have DS : ∀ b, F b → ¬ lF b := fun b bD ⟨i, ar⟩ => by obtain ⟨u, hu⟩ := fH i b ar; exact h.gH u b hu bD
 have v9 : ∀ u b, ct u b → ¬ lF b := fun u b hu ⟨i, ar⟩ => h9 i u b ar hu
 have zl : ∀ b, lF b → (X b ∨ w0.heap.size ≤ b) ∧ b < w.heap.size := fun b ⟨i, ar⟩ => by obtain ⟨u, hu⟩ := fH i b ar; exact ⟨h.ew u b hu, h.fz u b hu⟩
 have pre : bT w Fc lF Fc Sn (gf (ps.map (·.d))) (hL vs) w := by
  refine ⟨fun _ h => h, fun _ h => .inl h, ?_, fun i b ar => (zl b ⟨i, ar⟩).2, ?_, fun i j b eb => iL i j b eb, fun i b ar => .inl ⟨i, ar⟩, ?_, fun _ _ _ => rfl, Nat.le_refl _, rfl, rfl, rfl⟩
  ·rintro b (ae | ⟨_, u, hu⟩)
   ·exact h.gB b ae
   ·exact bc.fz u b hu
  ·rintro i b ar (ae | ⟨_, u, hu⟩)
   ·exact DS b ae ⟨i, ar⟩
   ·exact h9 i u b ar hu
  ·intro t
   cases ax : ps[t]? with
   | none =>
     have : gf (ps.map (·.d)) t = .hole := by simp [gf, List.getD, ax]
     rw [this, aV]; trivial
   | some p =>
     have fy : t < vs.length := by rw [← hl]; exact (List.getElem?_eq_some_iff.1 ax).1
     have a2 : vs[t]? = some vs[t] := List.getElem?_eq_getElem fy
     have a4 : gf (ps.map (·.d)) t = p.d := by simp [gf, List.getD, ax]
     have a_ : hL vs t = vs[t] := by simp [hL, List.getD, a2]
     rw [a4, a_]
     have hm : p ∈ ps := List.mem_of_getElem? ax
     have aE := gd p hm
     cases b6 : p.g with
     | true =>
       obtain ⟨x, q, J, b8, cu, fB, eP, gr, dG, jZ, eD⟩ := cB t p _ ax a2 b6
       simp only [cL.ok, b6, if_true, b8] at aE
       exact (aV.da (qk aE.2.1).2.1).2 ⟨jZ, aC.mono (fun b ae => .inl ae) _ _ _ _ (fun _ h => h) eD⟩
     | false =>
       simp only [cL.ok, b6] at aE
       obtain ⟨f1, f2⟩ := i0 t p _ ax a2
       have HI : ∀ cA ∈ ps, cA.g = true → ∀ u ∈ cA.a.ah, u ∉ p.a.ah := by
        intro cA eQ hI u hu
        obtain ⟨j, cx⟩ := List.getElem?_of_mem eQ
        refine apart j t cA p cx ax (fun e => ?_) (.inl hI) u hu
        subst e; rw [ax] at cx; simp only [Option.some.injEq] at cx; rw [cx, hI] at b6; cases b6
       have zk := ld _ _ _ HI f2
       have kB : view (fb s ps) p.a = some p.d := DM _ _ (fun u hu bh => DI (DL bh) (fun cA eQ hI v8 => HI cA eQ hI u v8 hu)) (by simpa using aE)
       refine aV.nothing (Pl f1 kB) ((Pn bc (Fc := Fc) (fun b ae => .inl ae) (SizeOf.sizeOf p.a)).1 p.a _ p.d (Nat.le_refl _) ?_ kB zk)
       intro u hu b ae
       refine .inr ⟨?_, u, ae⟩
       simp only [jB, List.any_eq_true]
       refine ⟨p, hm, ?_⟩
       cases kS : p.a.ah with
       | nil => rw [kS] at hu; cases hu
       | cons _ _ => simp [b6]
 refine nf.mono (bF Fc lF Sn (fun b ae => .inl ae) (fun b ⟨i, ar⟩ => fH i b ar) pre) ?_
 rintro v aS ⟨bV, a1, ay⟩
 have fc : ∀ b, b < w.heap.size → ¬ lF b → aS.heap[b]? = w.heap[b]? := ay.old
 let nV : Nat → Prop := fun b => if jB ps = true then F b else bV b
 have HJ : ∀ b, F b → bV b := fun b ae => ay.hP b (.inl ae)
 have tG : ∀ b, F b → nV b := fun b ae => by
  simp only [nV]; split
  ·exact ae
  ·exact HJ b ae
 have rI : ∀ b, nV b → bV b := fun b ae => by
  simp only [nV] at ae; split at ae
  ·exact HJ b ae
  ·exact ae
 have HK : ∀ b, nV b → F b ∨ lF b ∨ w.heap.size ≤ b := fun b ae => by
  simp only [nV] at ae; split at ae
  ·exact .inl ae
  ·rename_i qj
   rcases ay.h7 b ae with (ae | ⟨ai, _⟩) | ae | ae
   ·exact .inl ae
   ·exact (qj ai).elim
   ·exact .inr (.inl ae)
   ·exact .inr (.inr ae)
 have mid : bT w0 F0 X nV ct (fb s ps) aF aS := by
  refine ⟨fun b ae => tG b (bc.hP b ae), ?_, fun b ae => ay.gB b (rI b ae), fun t b ae => Nat.lt_of_lt_of_le (bc.fz t b ae) ay.size, ?_, bc.gm, bc.ew, ?_, ?_, Nat.le_trans bc.size ay.size, ay.os.trans bc.os, ay.tape.trans bc.tape, ay.output.trans bc.output⟩
  ·intro b ae
   rcases HK b ae with ae | ae | ae
   ·exact bc.h7 b ae
   ·rcases (zl b ae).1 with h | h
    ·exact .inr (.inl h)
    ·exact .inr (.inr h)
   ·exact .inr (.inr (Nat.le_trans bc.size ae))
  ·intro t b bh ae
   rcases HK b ae with ae | ae | ae
   ·exact bc.gH t b bh ae
   ·exact v9 t b bh ae
   ·exact absurd (bc.fz t b bh) (by omega)
  ·intro t
   exact aV.frame (Sx := ct) (fun b ae => fc b (h.gB b ae) (DS b ae)) tG (fun x b ae => fc b (bc.fz x b ae) (v9 x b ae)) bc.en _ _ _ (fun b ae => fc b (bc.fz t b ae) (v9 t b ae)) (bc.en t)
  ·intro b ae kR
   refine (fc b (Nat.lt_of_lt_of_le ae bc.size) fun aA => ?_).trans (bc.old b ae kR)
   rcases (zl b aA).1 with h | h
   ·exact kR h
   ·omega
 have HL : ∀ (d : I) (cs : List Value) (ew : Nat → Prop), (jB ps = true → d.cW = true) → aC aS bV d cs ew → aC aS nV d cs ew := by
  intro d cs ew Dj jo
  by_cases hle : jB ps = true
  ·exact aC.cW d cs ew (Dj hle) jo
  ·exact aC.mono (fun b ae => by simp only [nV]; rw [if_neg hle]; exact ae) _ _ _ _ (fun _ h => h) jo
 have bound : ∀ i b, a1 i b → b < aS.heap.size ∧ ¬ nV b ∧ (X b ∨ w0.heap.size ≤ b) ∧ ∀ u, ¬ ct u b := by
  intro i b ae
  refine ⟨ay.fz i b ae, fun bD => ay.gH i b ae (rI b bD), ?_, fun u hu => ?_⟩
  ·rcases ay.ew i b ae with aA | aA
   ·exact (zl b aA).1
   ·exact .inr (Nat.le_trans bc.size aA)
  ·rcases ay.ew i b ae with aA | aA
   ·exact v9 u b hu aA
   ·exact absurd (bc.fz u b hu) (by omega)
 obtain ⟨el, b8, cu⟩ := Pv ps vs (fb s ps) ct (fun i => a1 (i + 1)) mid hl (by
  intro i p gC ax a2 b6
  have hm : p ∈ ps := List.mem_of_getElem? ax
  have aE := gd p hm
  obtain ⟨x, q, J, a4, a_, a3, c1, c6, cl, cf, iy⟩ := cB i p gC ax a2 b6
  simp only [cL.ok, b6, if_true, a4] at aE
  rcases aE.2.2 with cm | cm
  ·exact .inl cm
  ·obtain ⟨hR, l2, v_⟩ := Po aE.2.1 cm.1 cm.2
   refine .inr ⟨x, q, J, p.d.dh, a4, a_, ?_, c1, fun dc => l2 _ (c6 dc), cl, cm.1, ?_, hR.trans (I.p_ _).symm, v_⟩
   ·cases q with
    | nil => simpa only [dq] using a3
    | cons k q =>
      have bh := cl (by simp)
      rw [CL (k :: q) _ _ (ct x) none _ ((aV.da bh).1 (bc.en x)).2 a_ (fun b ae => fc b (bc.fz x b ae) (v9 x b ae))]
      exact a3
   ·have := ay.en (i + 1)
    have kz : gf (r :: ps.map (·.o)) (i + 1) = p.o := by simp [gf, List.getD, ax]
    have nM : hL (v :: vs) (i + 1) = gC := by simp [hL, List.getD, a2]
    rw [kz, nM] at this
    exact HL _ _ _ (fun hle => (bd hle).2 p hm) ((aV.da (qk cm.1).2.1).1 this).2)
  (fun i b ae => bound (i + 1) b ae) (fun i j b eb => ay.gm (i + 1) (j + 1) b (by omega)) kD
 refine ⟨nV, el, b8, ?_, fun b ae => ⟨tG b ae, fc b (h.gB b ae) (DS b ae)⟩⟩
 have ba := ay.en 0
 have kz : gf (r :: ps.map (·.o)) 0 = r := rfl
 have nM : hL (v :: vs) 0 = v := rfl
 rw [kz, nM] at ba
 cases bh : r.tree with
 | false =>
   cases r <;> first
    | (simp [I.tree] at bh; done)
    | (simp [I.res] at a7; done)
    | exact .inl ⟨rfl, by rw [aV]; trivial⟩
 | true =>
   obtain ⟨s1, s2⟩ := (aV.da bh).1 ba
   have eY := HL _ _ _ (fun hle => (bd hle).1) s2
   refine .inr ⟨bh, s1, a1 0, eY, fun b ae => (bound 0 b ae).1, fun b ae => (bound 0 b ae).2.1, fun u b ae hu => ?_, fun b ae => (bound 0 b ae).2.2.1⟩
   rcases cu u b hu with hu | ⟨i, ar⟩
   ·exact (bound 0 b ae).2.2.2 u hu
   ·exact ay.gm 0 (i + 1) b (by omega) ae ar
theorem Px (h : bT w0 F0 X F S s aF w) {ps : List cL} {vs : List Value} {f : FuncId} {r : I} (hl : ps.length = vs.length)
  (i0 : ∀ (i : Nat) (p : cL) (v : Value), ps[i]? = some p → vs[i]? = some v → p.a.plain = true ∧ aV w F s aF p.a v (fun _ => False))
  (gd : ∀ p ∈ ps, p.ok s) (kD : ib ps = true) (bF : aT C f (ps.map (·.d)) r (ps.map (·.o))) (a7 : r.res = true)
  (bd : jB ps = true → r.cW = true ∧ ∀ p ∈ ps, p.o.cW = true) :
  nf C.P f vs.toArray w fun v aS => ∃ bV a1, bT w0 F0 X bV a1 (hK (fb s ps) ps) aF aS ∧ kT w0 X bV a1 (hK (fb s ps) ps) aF aS r v ∧ ∀ b, F b → bV b ∧ aS.heap[b]? = w.heap[b]? :=
 HH h hl i0 gd kD (fun Fc lF e2 _ _ ax => bF w Fc lF e2 vs (by simp [hl]) ax) a7 bd
end
structure cI where
 dst : Option Nat
 bM : fZ
 guard : Option (Nat × Bool)
def wa (ops : Array Oper) : Option (Nat × Bool) → Option (Option (Nat × Bool))
 | none => some none
 | some (j, b) => match (ops[j]?).bind (·.dst) with
   | some t => some (some (t, b))
   | none => none
structure Fr where
 n : Nat
 fx : List Nat
def kZ (n : Fr) : Option Nat → Bool
 | none => true
 | some t => decide (t < n.n) && !n.fx.contains t
def nW (op : Op) : fZ := match di op with
 | some bM => bM
 | none => .bad
def oW (n : Fr) (ops : Array Oper) (o : Oper) : Option cI :=
 if kZ n o.dst = true then match wa ops o.guard with
  | some g => some ⟨o.dst, nW o.op, g⟩
  | none => none
 else none
def oX (n : Fr) (ops : Array Oper) : List Oper → Option (List cI)
 | [] => some []
 | o :: os => match oW n ops o, oX n ops os with
   | some r, some rs => some (r :: rs)
   | _, _ => none
def zm (C : cn) (s : au) (f : aG) (args : List aG) (K : I → au → Prop) : Prop :=
 ∃ (g : FuncId) (caps : List I) (ps : List cL) (r : I), aR s f = .fn g caps ∧ I.dI caps = true ∧ ps.map (·.a) = args.map (aR s) ++ caps ∧ (∀ p ∈ ps, p.ok s) ∧ ib ps = true ∧
   aT C g (ps.map (·.d)) r (ps.map (·.o)) ∧ r.res = true ∧ (jB ps = true → r.cW = true ∧ ∀ p ∈ ps, p.o.cW = true) ∧ K r (hK (fb s ps) ps)
mutual
def I.fP (s : au) : I → Bool
 | .h x q => q.isEmpty && (s x).own
 | .ae x _ => !(s x).plain
 | .ax _ _ => false
 | .hole => true
 | .fn _ cap => I.nh s cap
 | d => d.plain
def I.nh (s : au) : List I → Bool
 | [] => true
 | d :: ds => d.fP s && I.nh s ds
end
def l6 (s : au) : List (Nat × I) → au
 | [] => s
 | p :: L => l6 (dr s p.1 p.2) L
def k1 (s : au) : List (Nat × I) → Bool
 | [] => true
 | p :: L => p.2.fP s && k1 s L
def i1 (s : au) (us : List Nat) : List (Nat × I) := us.map fun u => (u, s u)
def ni (C : cn) (s : au) (bM : fZ) (K : I → au → Prop) : Prop :=
 match bM with
 | .call f args => ∃ (g : FuncId) (caps : List I) (ps : List cL) (r : I), aR s f = .fn g caps ∧ I.dI caps = true ∧ ps.map (·.a) = args.map (aR s) ++ caps ∧ (∀ p ∈ ps, p.ok s) ∧ ib ps = true ∧
   aT C g (ps.map (·.d)) r (ps.map (·.o)) ∧ r.res = true ∧ (jB ps = true → r.cW = true ∧ ∀ p ∈ ps, p.o.cW = true) ∧ K r (hK (fb s ps) ps)
 | .shr bM => ∃ av s1, bU C s bM = some (av, s1) ∧ av.tree = true ∧ (∀ vs, av ≠ .tuple vs) ∧ K av.share s1
 | .l3 f args u x => s u = .h x [] ∧ (s x).own = true ∧ zm C s f args fun av s1 => s1 u = .hole ∧ (s1 x).own = true ∧ K av (dr s1 u (.h x []))
 | .j1 f args us => k1 s (i1 s us) = true ∧ zm C s f args fun av s1 => k1 s1 (i1 s us) = true ∧ K av (l6 s1 (i1 s us))
 | bM => ∃ av s1, bU C s bM = some (av, s1) ∧ K av s1
theorem zn {C : cn} {s : au} {bM : fZ} {K dt : I → au → Prop} (h : ni C s bM K) (aE : ∀ av s, K av s → dt av s) : ni C s bM dt := by
 cases bM with
 | call f args =>
   obtain ⟨g, caps, ps, r, ai, gg, aj, aP, bb, b5, cF, cq, fO⟩ := h
   exact ⟨g, caps, ps, r, ai, gg, aj, aP, bb, b5, cF, cq, aE _ _ fO⟩
 | shr bM =>
   obtain ⟨av, s1, ai, aj, aP, bb⟩ := h
   exact ⟨av, s1, ai, aj, aP, aE _ _ bb⟩
 | l3 f args u x =>
   obtain ⟨b8, cu, g, caps, ps, r, ai, gg, aj, aP, bb, b5, cF, cq, fO, iI, hO⟩ := h
   exact ⟨b8, cu, g, caps, ps, r, ai, gg, aj, aP, bb, b5, cF, cq, fO, iI, aE _ _ hO⟩
 | j1 f args us =>
   obtain ⟨cu, g, caps, ps, r, ai, gg, aj, aP, bb, b5, cF, cq, fO, iI⟩ := h
   exact ⟨cu, g, caps, ps, r, ai, gg, aj, aP, bb, b5, cF, cq, fO, aE _ _ iI⟩
 | _ =>
   obtain ⟨av, s1, ai, aj⟩ := h
   exact ⟨av, s1, ai, aE _ _ aj⟩
def lj (C : cn) (s : au) (o : cI) (K : au → Prop) : Prop :=
 match o.guard with
 | none => ni C s o.bM fun av s1 => K (fin s1 o.dst av)
 | some (t, b) => match s t with
   | .bool fU => if fU = b then ni C s o.bM (fun av s1 => K (fin s1 o.dst av)) else K (fin s o.dst (.tuple []))
   | .tuple [] => K (fin s o.dst (.tuple []))
   | _ => False
def k2 (C : cn) (s : au) : List cI → (au → Prop) → Prop
 | [], K => K s
 | o :: os, K => lj C s o fun s1 => k2 C s1 os K
def jC (C : cn) (ros : List cI) (s : au) : List Nat → (au → Prop) → Prop
 | [], K => K s
 | i :: l, K => match ros[i]? with
   | none => jC C ros s l K
   | some o => lj C s o fun s1 => jC C ros s1 l K
theorem Py (C : cn) (K : au → Prop) : ∀ (rs pre : List cI) (s : au), k2 C s rs K → jC C (pre ++ rs) s ((List.range rs.length).map (· + pre.length)) K := by
 intro rs
 induction rs with
 | nil => intro pre s h; exact h
 | cons r rs ih =>
   intro pre s h
   rw [List.length_cons, List.range_succ_eq_map, List.map_cons, List.map_map]
   simp only [jC, Nat.zero_add]
   rw [List.getElem?_append_right (Nat.le_refl _)]
   simp only [Nat.sub_self, List.getElem?_cons_zero]
   have key : ∀ s1, k2 C s1 rs K → jC C (pre ++ r :: rs) s1 ((List.range rs.length).map ((fun x => x + pre.length) ∘ Nat.succ)) K := by
    intro s1 ai
    have := ih (pre ++ [r]) s1 ai
    simp only [List.append_assoc, List.singleton_append, List.length_append, List.length_singleton] at this
    have e : ((fun x => x + pre.length) ∘ Nat.succ) = fun x => x + (pre.length + 1) := by funext x; simp; omega
    rw [e]; exact this
   simp only [k2] at h
   unfold lj at h ⊢
   split
   ·rename_i b6; rw [b6] at h; exact zn h fun av s1 => key _
   ·rename_i t b b6
    rw [b6] at h
    simp only at h
    split
    ·rename_i fU ah
     rw [ah] at h
     simp only at h
     split
     ·rename_i ae; rw [if_pos ae] at h; exact zn h fun av s1 => key _
     ·rename_i ae; rw [if_neg ae] at h; exact key _ h
    ·rename_i ah; rw [ah] at h; exact key _ h
    ·rename_i ai aj
     split at h
     ·exact ai _ (by assumption)
     ·exact aj (by assumption)
     ·exact h
structure Rel (w0 : World) (F0 X : Nat → Prop) (n : Fr) (ρ : Nat → Value) (s : au) (a : Act) (w : World) : Prop where
 defers : a.defers = []
 size : a.tmps.size = n.n
 fixed : ∀ i ∈ n.fx, a.tmps.getD i undef = ρ i
 rel : ∃ F S, bT w0 F0 X F S s (fun t => a.tmps.getD t undef) w
section
variable {C : cn} {w0 w : World} {F0 X : Nat → Prop} {n : Fr} {ρ : Nat → Value} {s s1 : au} {a : Act} {av : I} {Q : Exit → Act → World → Prop}
theorem wb {dst : Option Nat} (v : Value) (ah : a.tmps.size = n.n) (al : kZ n dst = true) :
  (fun t => (a.put dst v).tmps.getD t undef) = nI (fun t => a.tmps.getD t undef) dst v ∧ (a.put dst v).tmps.size = n.n ∧ (a.put dst v).defers = a.defers := by
 cases dst with
 | none => exact ⟨rfl, ah, rfl⟩
 | some d =>
   simp only [kZ, Bool.and_eq_true, decide_eq_true_eq] at al
   refine ⟨?_, by simp [Act.put, ah], rfl⟩
   funext t
   simp only [Act.put, nI, dr, Array.getD_eq_getD_getElem?]
   by_cases h : t = d
   ·subst h
    rw [if_pos rfl, Array.getElem?_setIfInBounds_self_of_lt (by omega)]; rfl
   ·rw [if_neg h, Array.getElem?_setIfInBounds_ne (fun e => h e.symm)]
theorem Rel.put {F S} (al : a.defers = []) (ah : a.tmps.size = n.n) (bF : ∀ i ∈ n.fx, a.tmps.getD i undef = ρ i) {aS : World} (a7 : bT w0 F0 X F S s (fun t => a.tmps.getD t undef) aS) {v : Value} (a2 : kT w0 X F S s (fun t => a.tmps.getD t undef) aS av v)
  {dst : Option Nat} (gd : kZ n dst = true) : Rel w0 F0 X n ρ (fin s dst av) (a.put dst v) aS := by
 obtain ⟨a4, a_, a3⟩ := wb (n := n) (dst := dst) v ah gd
 obtain ⟨a1, bB⟩ := a7.fin a2 dst
 refine ⟨a3.trans al, a_, fun i ar => ?_, F, a1, by rw [a4]; exact bB⟩
 rw [congrFun a4 i]
 cases dst with
 | none => exact bF i ar
 | some d =>
   simp only [kZ, Bool.and_eq_true, Bool.not_eq_true', List.contains_eq_mem, decide_eq_false_iff_not] at gd
   have eb : i ≠ d := fun e => gd.2 (by rw [← e]; exact ar)
   simp only [nI]
   rw [jl _ _ eb]
   exact bF i ar
theorem Rel.skip (h : Rel w0 F0 X n ρ s a w) {dst : Option Nat} (gd : kZ n dst = true) : Rel w0 F0 X n ρ (fin s dst (.tuple [])) (a.put dst undef) w := by
 obtain ⟨al, ah, bF, F, S, a7⟩ := h
 refine Rel.put (av := .tuple []) al ah bF a7 (.inl ⟨rfl, (aV.da (d := .tuple []) rfl).2 ⟨?_, ?_⟩⟩) gd
 ·exact ⟨#[], rfl, rfl, fun k d x aE => by simp at aE⟩
 ·rw [aC, bl]; rfl
theorem HM {F : Nat → Prop} {aF : Nat → Value} {w : World} : ∀ {ds es : List I} {vs us : List Value}, eX w F s aF ds vs → eX w F s aF es us → eX w F s aF (ds ++ es) (vs ++ us) := by
 intro ds
 induction ds with
 | nil => intro es vs us ai aj; rw [eX] at ai; subst ai; exact aj
 | cons d ds ih =>
   intro es vs us ai aj
   rw [eX] at ai
   obtain ⟨v, kf, rfl, bc, bG⟩ := ai
   rw [List.cons_append, List.cons_append, eX]
   exact ⟨v, _, rfl, bc, ih bG aj⟩
theorem HN {F : Nat → Prop} {aF : Nat → Value} {w : World} : ∀ {ds : List I} {vs : List Value}, eX w F s aF ds vs → ds.length = vs.length ∧ ∀ (i : Nat) (d : I) (v : Value), ds[i]? = some d → vs[i]? = some v → aV w F s aF d v (fun _ => False) := by
 intro ds
 induction ds with
 | nil => intro vs h; rw [eX] at h; subst h; exact ⟨rfl, fun i d v h => by simp at h⟩
 | cons d ds ih =>
   intro vs h
   rw [eX] at h
   obtain ⟨v, kf, rfl, bc, bG⟩ := h
   obtain ⟨b8, cu⟩ := ih bG
   refine ⟨by simp [b8], fun i bE gC al a2 => ?_⟩
   cases i with
   | zero => simp at al a2; subst al a2; exact bc
   | succ i => exact cu i bE gC (by simpa using al) (by simpa using a2)
theorem nX {op : Op} {bM : fZ} (h : nW op = bM) : bM = .bad ∨ di op = some bM := by
 unfold nW at h
 split at h
 ·subst h; right; assumption
 ·exact .inl h.symm
theorem Pz {op : Op} {bM : fZ} : di op ≠ some (.shr bM) := by
 intro h
 unfold di at h
 split at h <;> (try split at h) <;> (try split at h) <;> (try split at h) <;> (try simp [Option.map_eq_some_iff] at h)
theorem PA {op : Op} {f : aG} {args : List aG} {u x : Nat} : di op ≠ some (.l3 f args u x) := by
 intro h
 unfold di at h
 split at h <;> (try split at h) <;> (try split at h) <;> (try split at h) <;> (try simp [Option.map_eq_some_iff] at h)
theorem PB {op : Op} {f : aG} {args : List aG} {us : List Nat} : di op ≠ some (.j1 f args us) := by
 intro h
 unfold di at h
 split at h <;> (try split at h) <;> (try split at h) <;> (try split at h) <;> (try simp [Option.map_eq_some_iff] at h)
theorem PC {op : Op} {T : TypeId} {x : aG} : di op ≠ some (.jz T x) := by
 intro h
 unfold di at h
 split at h <;> (try split at h) <;> (try split at h) <;> (try split at h) <;> (try simp [Option.map_eq_some_iff] at h)
theorem PD {op : Op} {T bN : TypeId} {x y : aG} : di op ≠ some (.m8 T bN x y) := by
 intro h
 unfold di at h
 split at h <;> (try split at h) <;> (try split at h) <;> (try split at h) <;> (try simp [Option.map_eq_some_iff] at h)
theorem PE {op : Op} {T bN : TypeId} {x y : aG} (h : di op = some (.app T bN x y)) : ∃ a b, op = .call ⟨.builtin .append, #[a, b], #[T, bN]⟩ ∧ dW a = some x ∧ dW b = some y := by
 cases op with
 | call c =>
   obtain ⟨callee, args, argTypes⟩ := c
   simp only [di] at h
   split at h
   ·split at h <;> simp at h
   ·split at h <;> simp at h
   ·split at h <;> simp at h
   ·(split at h <;> try split at h) <;> simp at h
   ·(split at h <;> try split at h) <;> simp at h
   ·split at h
    ·rename_i a b wc zi l4 rB
     split at h
     ·rename_i cz jS aA bL
      simp only [Option.some.injEq, fZ.app.injEq] at h
      obtain ⟨rfl, rfl, rfl, rfl⟩ := h
      refine ⟨a, b, ?_, aA, bL⟩
      have a4 : args = #[a, b] := by apply Array.ext'; exact l4
      have a_ : argTypes = #[wc, zi] := by apply Array.ext'; exact rB
      subst a4 a_
      rfl
     ·cases h
    ·cases h
   ·cases h
 | makeFunc fn first cs =>
   cases fn <;> simp only [di] at h <;> first | (cases h; done) | (split at h <;> simp at h)
 | slice T x de ar hE =>
   cases hE <;> simp only [di] at h <;> first | (cases h; done) | (split at h <;> simp at h)
 | _ => simp only [di] at h <;> first | (cases h; done) | (simp at h; done) | (split at h <;> simp at h)
theorem bT.alias {F : Nat → Prop} {S : Nat → Nat → Prop} {aF : Nat → Value} {u x : Nat} (h : bT w0 F0 X F S s aF w) (hu : s u = .hole) (aA : (s x).own = true) (a2 : cV (aF u) = cV (aF x)) (ai : Value.gU (aF u) = true) :
  bT w0 F0 X F (gq S u (fun _ => False)) (dr s u (.h x [])) aF w := by
 have eT : dr aF u (aF u) = aF := by funext y; simp only [dr]; split <;> simp_all
 have := h.tm (t := u) (d := .h x []) (v := aF u) rfl (by
  rw [aV]
  intro d al ax
  simp only [I.sub, Option.some.injEq] at al
  subst al
  exact ⟨cV (aF x), none, rfl, a2, ((pE aA).2.2.2.2.2 _).2 ai⟩)
 rwa [eT] at this
theorem kT.less {F : Nat → Prop} {S a1 : Nat → Nat → Prop} {aF : Nat → Value} {s1 : au} {v : Value} (cb : ∀ u b, a1 u b → S u b) (a7 : av.res = true) (h : kT w0 X F S s aF w av v) : kT w0 X F a1 s1 aF w av v := by
 rcases h with ⟨ai, aj⟩ | ⟨ai, aj, Sn, aP, bb, b5, cF, cq⟩
 ·refine .inl ⟨ai, ?_⟩
  cases av <;> first
   | (simp [I.res] at a7; done)
   | (rw [aV]; trivial)
   | (rw [aV] at aj ⊢; exact aj)
 ·exact .inr ⟨ai, aj, Sn, aP, bb, b5, fun u b ae hu => cF u b ae (cb u b hu), cq⟩
theorem DT (bA : C.fo) (h : Rel w0 F0 X n ρ s a w) {o : Oper} {f : aG} {args : List aG} (cQ : di o.op = some (.call f args)) (al : kZ n o.dst = true) {K : I → au → Prop} {L : au → Prop} {next : Act → World → Prop}
  (hw : zm C s f args K) (rJ : ∀ F S bV a1 w aS av s1 v, bT w0 F0 X F S s (fun t => a.tmps.getD t undef) w → K av s1 → av.res = true → bT w0 F0 X bV a1 s1 (fun t => a.tmps.getD t undef) aS → kT w0 X bV a1 s1 (fun t => a.tmps.getD t undef) aS av v → (∀ b, F b → bV b ∧ aS.heap[b]? = w.heap[b]?) →
   ∃ s2 el, L (fin s2 o.dst av) ∧ bT w0 F0 X bV el s2 (fun t => a.tmps.getD t undef) aS ∧ kT w0 X bV el s2 (fun t => a.tmps.getD t undef) aS av v)
  (bd : ∀ az cS aS, L az → Rel w0 F0 X n ρ az cS aS → next cS aS) : o.wp C.P a w next Q := by
 have nY := h
 obtain ⟨jD, e3, ij, F, S, a7⟩ := h
 obtain ⟨g, caps, ps, r, ai, gg, aj, aP, bb, b5, cF, cq, fO⟩ := hw
 obtain ⟨dst, op, ty, pos, after, guard⟩ := o
 simp only at cQ al rJ
 cases op with
 | call c =>
   obtain ⟨callee, l7, argTypes⟩ := c
   simp only [di] at cQ
   split at cQ
   ·split at cQ
    ·rename_i we _ _ PF xs bF oV
     simp only [Option.some.injEq, fZ.call.injEq] at cQ
     obtain ⟨rfl, rfl⟩ := cQ
     obtain ⟨f1, f2⟩ := gn a7 (fun _ => rfl) bF
     rw [ai, aV] at f2
     obtain ⟨arr, f3, f4⟩ := f2
     have rK : execOp a.eval { dst, op := .call { callee := .value we, args := l7, argTypes }, type := ty, pos, after, guard } = callFunc g ((l7.toList.map a.eval ++ arr.toList).toArray) := by
      have : a.eval we = .func (.func g) #[] arr := f3
      simp only [execOp, resolve, this, Deferred.ofValue, pure_bind, invoke]
      congr 1
      apply Array.ext'; simp
     unfold Oper.wp
     rw [rK]
     have wg : eX w F s (fun t => a.tmps.getD t undef) (xs.map (aR s) ++ caps) (l7.toList.map a.eval ++ arr.toList) := HM (zf a7 (fun _ => rfl) _ _ (rA oV)) f4
     rw [← aj] at wg
     obtain ⟨hR, l2⟩ := HN wg
     have fV : ∀ d ∈ xs.map (aR s) ++ caps, d.plain = true := by
      intro d al
      rcases List.mem_append.1 al with al | al
      ·obtain ⟨x, aA, rfl⟩ := List.mem_map.1 al
       exact GF s x fun av e => by
        subst e
        have hm := rA oV
        have : some (aG.c av) ∈ xs.map some := List.mem_map.2 ⟨_, aA, rfl⟩
        rw [← hm] at this
        obtain ⟨o, _, cm⟩ := List.mem_map.1 this
        cases o with
        | const v => simp only [dW, Option.map_eq_some_iff] at cm; obtain ⟨c, ay, e⟩ := cm; cases e; exact CT ay
        | tmp n => simp [dW] at cm
        | func g => simp [dW] at cm
        | global g => simp [dW] at cm
      ·obtain ⟨k, aE⟩ := List.getElem?_of_mem al
       exact yL gg aE
     have DU := Px (C := C) a7 (ps := ps) (vs := l7.toList.map a.eval ++ arr.toList) (f := g) (r := r) (by simpa using hR)
      (fun i p v ax a2 => ⟨fV p.a (by rw [← aj]; exact List.mem_map.2 ⟨p, List.mem_of_getElem? ax, rfl⟩), l2 i p.a v (by simp [ax]) a2⟩) aP bb b5 cF cq
     rcases DU with ⟨dV, eS⟩ | ⟨v, aS, dV, bV, a1, eS, h8, jT⟩
     ·rw [dV, Oper.upon_enter]
      refine Calls.mono eS ?_
      rintro e aS ⟨v, rfl, bV, a1, b8, cu, fB⟩
      obtain ⟨s2, el, fC, gI, hH⟩ := rJ _ _ _ _ _ _ _ _ _ a7 fO cF b8 cu fB
      exact bd _ _ _ fC (Rel.put jD e3 ij gI hH al)
     ·rw [dV, Oper.upon_value]
      obtain ⟨s2, el, fC, gI, hH⟩ := rJ _ _ _ _ _ _ _ _ _ a7 fO cF eS h8 jT
      exact bd _ _ _ fC (Rel.put jD e3 ij gI hH al)
    ·cases cQ
   ·split at cQ
    ·simp only [Option.map_eq_some_iff] at cQ; obtain ⟨_, _, cQ⟩ := cQ; cases cQ
    ·cases cQ
   ·split at cQ
    ·simp only [Option.map_eq_some_iff] at cQ; obtain ⟨_, _, cQ⟩ := cQ; cases cQ
    ·cases cQ
   iterate 3
    ·split at cQ
     ·split at cQ <;> cases cQ
     ·cases cQ
   ·cases cQ
 | makeFunc fn first cs =>
   cases fn <;> simp only [di] at cQ <;> first | (cases cQ; done) | (split at cQ <;> simp at cQ)
 | slice T x de ar hE =>
   cases hE <;> simp only [di] at cQ <;> first | (cases cQ; done) | (split at cQ <;> simp at cQ)
 | _ => simp only [di] at cQ <;> first | (cases cQ; done) | (simp at cQ; done) | (split at cQ <;> simp at cQ)
theorem PG (bA : C.fo) (h : Rel w0 F0 X n ρ s a w) {o : Oper} {bM : fZ} (cQ : di o.op = some bM) (al : kZ n o.dst = true) {K : au → Prop} {next : Act → World → Prop}
  (hw : ni C s bM fun av s1 => K (fin s1 o.dst av)) (bd : ∀ az cS aS, K az → Rel w0 F0 X n ρ az cS aS → next cS aS) : o.wp C.P a w next Q := by
 have nY := h
 obtain ⟨jD, e3, ij, F, S, a7⟩ := h
 have plain : ∀ av s1, bU C s bM = some (av, s1) → K (fin s1 o.dst av) → o.wp C.P a w next Q := by
  intro av s1 he aE
  obtain ⟨r, aS, v, bV, a1, ai, aj, aP, bb⟩ := Hm (a := a) bA a7 (fun _ => rfl) cQ he
  unfold Oper.wp
  rw [ai]
  rcases aj with rfl | ⟨rfl, rfl⟩
  ·exact bd _ _ _ aE (Rel.put jD e3 ij aP bb al)
  ·exact bd _ _ _ aE (Rel.put jD e3 ij aP bb al)
 cases bM with
 | shr bM => exact (Pz cQ).elim
 | m8 T bN x y => exact (PD cQ).elim
 | call f args => exact DT bA ⟨jD, e3, ij, F, S, a7⟩ cQ al (K := fun av s1 => K (fin s1 o.dst av)) hw (fun _ _ _ a1 _ _ _ s1 _ _ aj _ aP bb _ => ⟨s1, a1, aj, aP, bb⟩) bd
 | l3 f args u x => exact (PA cQ).elim
 | j1 f args L => exact (PB cQ).elim
 | jz T x => exact (PC cQ).elim
 | _ =>
   obtain ⟨av, s1, he, aE⟩ := hw
   exact plain av s1 he aE
theorem kT.share {F : Nat → Prop} {S : Nat → Nat → Prop} {aF : Nat → Value} {v : Value} (h : bT w0 F0 X F S s aF w) (a2 : kT w0 X F S s aF w av v) (bh : av.tree = true) (bd : ∀ vs, av ≠ .tuple vs) :
  ∃ bV, bT w0 F0 X bV S s aF w ∧ kT w0 X bV S s aF w av.share v := by
 obtain ⟨Sn, iP, bn, dX, b9, dD, dK⟩ : ∃ Sn : Nat → Prop, eL av v ∧ aC w F av (cV v) Sn ∧ (∀ b, Sn b → b < w.heap.size) ∧ (∀ b, Sn b → ¬ F b) ∧ (∀ u b, Sn b → ¬ S u b) ∧ (∀ b, Sn b → X b ∨ w0.heap.size ≤ b) := by
  rcases a2 with ⟨ai, aj⟩ | ⟨_, aj, Sn, aP, bb, b5, cF, cq⟩
  ·rw [aV.da bh] at aj
   exact ⟨fun _ => False, aj.1, aj.2, fun _ h => h.elim, fun _ h => h.elim, fun _ _ h => h.elim, fun _ h => h.elim⟩
  ·exact ⟨Sn, aj, aP, bb, b5, cF, cq⟩
 refine ⟨fun b => F b ∨ Sn b, ?_, .inl ⟨DF av, ?_⟩⟩
 ·exact {
   hP := fun b ae => .inl (h.hP b ae)
   h7 := fun b ae => by
    rcases ae with ae | ae
    ·exact h.h7 b ae
    ·exact .inr (dK b ae)
   gB := fun b ae => ae.elim (h.gB b) (dX b)
   fz := h.fz
   gH := fun t b ae bF => bF.elim (h.gH t b ae) (fun ah => dD t b ah ae)
   gm := h.gm
   ew := h.ew
   en := fun t => aV.frame (fun _ _ => rfl) (fun b ae => .inl ae) (fun _ _ _ => rfl) h.en _ _ _ (fun _ _ => rfl) (h.en t)
   old := h.old
   size := h.size
   os := h.os
   tape := h.tape
   output := h.output }
 ·have PH : av.share.tree = true := by cases av <;> first | exact bh | rfl
  rw [aV.da PH]
  exact ⟨DH bd iP, aC.shared (fun b ae => .inl ae) av _ Sn (fun b ae => .inr ae) bn⟩
theorem PI {op : Op} {T : TypeId} {x : aG} (h : di op = some (.c7 T x)) : ∃ a, op = .box T a ∧ dW a = some x := by
 cases op with
 | box wc a =>
   simp only [di, Option.map_eq_some_iff, fZ.c7.injEq] at h
   obtain ⟨y, bL, rfl, rfl⟩ := h
   exact ⟨a, rfl, bL⟩
 | _ =>
   exfalso
   unfold di at h
   split at h <;> (try split at h) <;> (try split at h) <;> (try split at h) <;> (try simp [Option.map_eq_some_iff] at h) <;> contradiction
theorem PJ {aS : World} {F bV : Nat → Prop} {s s1 : au} {aF : Nat → Value} (bD : ∀ b, F b → bV b ∧ aS.heap[b]? = w.heap[b]?) : ∀ (n : Nat),
  (∀ (d : I) (v : Value) (S : Nat → Prop), SizeOf.sizeOf d ≤ n → d.fP s = true → d.fP s1 = true → aV w F s aF d v S → aV aS bV s1 aF d v (fun _ => False)) ∧
  (∀ (ds : List I) (vs : List Value), SizeOf.sizeOf ds ≤ n → I.nh s ds = true → I.nh s1 ds = true → eX w F s aF ds vs → eX aS bV s1 aF ds vs) := by
 intro n
 induction n with
 | zero =>
   refine ⟨fun d v S ca => ?_, fun ds vs ca => ?_⟩
   ·cases d <;> simp at ca <;> omega
   ·cases ds <;> simp at ca <;> omega
 | succ n ih =>
   refine ⟨fun d v S ca b8 cu h => ?_, fun ds vs ca b8 cu h => ?_⟩
   ·cases d with
    | hole => rw [aV]; trivial
    | h x q =>
      simp only [I.fP, Bool.and_eq_true, List.isEmpty_iff] at b8 cu
      obtain ⟨rfl, b8⟩ := b8
      rw [aV] at h ⊢
      obtain ⟨c0, a, gL, hr, h6⟩ := h (s x) (by simp only [I.sub]) (pE b8).1
      simp only [dq, Option.some.injEq, Prod.mk.injEq, true_and] at gL
      intro d al _
      simp only [I.sub, Option.some.injEq] at al
      subst al
      exact ⟨cV (aF x), none, by simp only [dq], by rw [hr, ← gL.1], ((pE cu.2).2.2.2.2.2 _).2 (((pE b8).2.2.2.2.2 _).1 h6)⟩
    | ax x q => simp [I.fP] at b8
    | ae x k =>
      simp only [I.fP, Bool.not_eq_true'] at b8
      rw [aV] at h ⊢
      obtain ⟨b, cur, e, fr, ai, aj, aP, bb⟩ := h b8
      exact fun _ => ⟨b, cur, e, fr, ai, (bD b aj).1, (bD b aj).2.trans aP, bb⟩
    | fn f cap =>
      simp only [I.fP] at b8 cu
      rw [aV] at h ⊢
      obtain ⟨arr, rfl, ay⟩ := h
      exact ⟨arr, rfl, ih.2 _ _ (by simp at ca; omega) b8 cu ay⟩
    | _ =>
      simp only [I.fP] at b8
      have bB := (aV.da rfl).1 h
      exact (aV.da rfl).2 ⟨bB.1, aC.mono (fun b ae => (bD b ae).1) _ _ _ _ (fun _ h => h) (aC.frame (fun b ae => (bD b ae).2) _ _ _ (fun _ h => h.elim) (aC.plain _ _ _ _ b8 bB.2))⟩
   ·cases ds with
    | nil => rw [eX] at h ⊢; exact h
    | cons d ds =>
      simp only [I.nh, Bool.and_eq_true] at b8 cu
      rw [eX] at h ⊢
      obtain ⟨v, kf, rfl, ai, aj⟩ := h
      simp at ca
      exact ⟨v, kf, rfl, ih.1 _ _ _ (by omega) b8.1 cu.1 ai, ih.2 _ _ (by omega) b8.2 cu.2 aj⟩
theorem PK {s : au} {d : I} (h : d.fP s = true) : d.plain = true := by
 cases d <;> first | rfl | (simpa [I.fP] using h)
theorem bT.l6 {F : Nat → Prop} {aF : Nat → Value} : ∀ (L : List (Nat × I)) (s : au) (S : Nat → Nat → Prop), bT w0 F0 X F S s aF w → (∀ p ∈ L, p.2.plain = true ∧ aV w F s aF p.2 (aF p.1) (fun _ => False)) →
  ∃ a1, bT w0 F0 X F a1 (dg.l6 s L) aF w ∧ ∀ u b, a1 u b → S u b := by
 intro L
 induction L with
 | nil => intro s S h _; exact ⟨S, h, fun _ _ h => h⟩
 | cons p L ih =>
   intro s S h rJ
   obtain ⟨ai, aj⟩ := rJ p (by simp)
   have eT : dr aF p.1 (aF p.1) = aF := by funext u; simp only [dr]; split <;> simp_all
   have aP := h.tm (t := p.1) ai aj
   rw [eT] at aP
   have hs : ∀ x, x ≠ p.1 → (dr s p.1 p.2 x).tree = true → dr s p.1 p.2 x = s x ∧ aF x = aF x := fun x aA _ => ⟨jl _ _ aA, rfl⟩
   obtain ⟨a1, bc, bG⟩ := ih _ _ aP (fun q dc => ⟨(rJ q (by simp [dc])).1, (aV.void (t := p.1) hs (by rw [lX]; exact ai) _).1 _ _ _ (Nat.le_refl _) (rJ q (by simp [dc])).2⟩)
   refine ⟨a1, bc, fun u b ae => ?_⟩
   have := bG u b ae
   simp only [gq] at this
   split at this
   ·exact this.elim
   ·exact this
theorem DV {s : au} : ∀ {L : List (Nat × I)}, k1 s L = true → ∀ p ∈ L, p.2.fP s = true
 | q :: L, ai, p, ax => by
   simp only [k1, Bool.and_eq_true] at ai
   rcases List.mem_cons.1 ax with rfl | ax
   ·exact ai.1
   ·exact DV ai.2 p ax
theorem PL {s : au} {us : List Nat} {p : Nat × I} (h : p ∈ i1 s us) : p.1 ∈ us ∧ s p.1 = p.2 := by
 obtain ⟨u, hu, rfl⟩ := List.mem_map.1 h
 exact ⟨hu, rfl⟩
theorem PM (bA : C.fo) (h : Rel w0 F0 X n ρ s a w) {o : Oper} {bM : fZ} (cQ : nW o.op = bM.base) (al : kZ n o.dst = true) {K : au → Prop} {next : Act → World → Prop}
  (hw : ni C s bM fun av s1 => K (fin s1 o.dst av)) (bd : ∀ az cS aS, K az → Rel w0 F0 X n ρ az cS aS → next cS aS) : o.wp C.P a w next Q := by
 cases bM with
 | shr bM =>
   obtain ⟨av, s1, he, bh, l5, aE⟩ := hw
   rcases nX cQ with cQ | cQ
   ·change bM = .bad at cQ
    subst cQ; cases he
   obtain ⟨jD, e3, ij, F, S, a7⟩ := h
   obtain ⟨r, aS, v, bV, a1, ai, aj, aP, bb⟩ := Hm (a := a) bA a7 (fun _ => rfl) cQ he
   obtain ⟨rI, cB, eC⟩ := kT.share aP bb bh l5
   unfold Oper.wp
   rw [ai]
   rcases aj with rfl | ⟨rfl, rfl⟩
   ·exact bd _ _ _ aE (Rel.put jD e3 ij cB eC al)
   ·exact bd _ _ _ aE (Rel.put jD e3 ij cB eC al)
 | bad => obtain ⟨av, s1, he, _⟩ := hw; cases he
 | l3 f args u x =>
   obtain ⟨a4, a_, hw⟩ := hw
   rcases nX cQ with ae | ae
   ·cases ae
   ·refine DT bA h ae al hw ?_ bd
    rintro F S bV a1 w aS av s1 v iP ⟨bn, dX, b9⟩ dD dK eV _
    have yS := iP.en u
    rw [a4, aV] at yS
    obtain ⟨c0, J, gL, hr, h6⟩ := yS (s x) (by simp only [I.sub]) (pE a_).1
    simp only [dq, Option.some.injEq, Prod.mk.injEq, true_and] at gL
    have PN : ∀ y b, gq a1 u (fun _ => False) y b → a1 y b := by
     intro y b ae
     simp only [gq] at ae
     split at ae
     ·exact ae.elim
     ·exact ae
    exact ⟨_, _, b9, dK.alias bn dX (by rw [hr, ← gL.1]) (((pE a_).2.2.2.2.2 _).1 h6), eV.less PN dD⟩
 | j1 f args L =>
   obtain ⟨a_, hw⟩ := hw
   rcases nX cQ with ae | ae
   ·cases ae
   ·refine DT bA h ae al hw ?_ bd
    rintro F S bV a1 w aS av s1 v iP ⟨bn, b9⟩ dD dK eV gp
    obtain ⟨el, bc, bG⟩ := dK.l6 (i1 s L) s1 a1 (fun p ax => by
     have dV := (PL ax).2
     have eS := DV a_ p ax
     have h8 := DV bn p ax
     refine ⟨PK eS, (PJ gp _).1 _ _ (S p.1) (Nat.le_refl _) eS h8 ?_⟩
     have := iP.en p.1
     rw [dV] at this
     exact this)
    exact ⟨_, el, b9, bc, eV.less bG dD⟩
 | jz T x =>
   obtain ⟨av, s1, he, aE⟩ := hw
   rcases nX cQ with ae | ae
   ·cases ae
   ·obtain ⟨cz, wh, aA⟩ := PI ae
    obtain ⟨jD, e3, ij, F, S, a7⟩ := h
    obtain ⟨dst, op, ty, pos, after, guard⟩ := o
    simp only at wh al aE
    subst wh
    obtain ⟨r, aS, v, bV, a1, ai, aj, aP, bb⟩ : Next C w0 F0 X (fun t => a.tmps.getD t undef) w (execOp a.eval ⟨dst, .box T cz, ty, pos, after, guard⟩) av s1 := (N0 (T := T) a7 (gn a7 (fun _ => rfl) aA).2 he).next
    unfold Oper.wp
    rw [ai]
    rcases aj with rfl | ⟨rfl, rfl⟩
    ·exact bd _ _ _ aE (Rel.put jD e3 ij aP bb al)
    ·exact bd _ _ _ aE (Rel.put jD e3 ij aP bb al)
 | m8 T bN x y =>
   obtain ⟨av, s1, he, aE⟩ := hw
   rcases nX cQ with ae | ae
   ·cases ae
   ·obtain ⟨cz, jS, wh, aA, bL⟩ := PE ae
    obtain ⟨jD, e3, ij, F, S, a7⟩ := h
    simp only [bU, Option.map_eq_some_iff, Prod.mk.injEq] at he
    obtain ⟨d, hb, rfl, rfl⟩ := he
    obtain ⟨v, aS, bV, a1, ai, aj, aP⟩ := OJ (ty := o.type) bA a7 (gn a7 (fun _ => rfl) aA).2 (gn a7 (fun _ => rfl) bL).2 hb
    have rK : execOp a.eval o = (do pure (.value (← Builtin.append_ #[T, bN] o.type #[a.eval cz, a.eval jS]))) := by
     obtain ⟨dst, op, ty, pos, after, guard⟩ := o
     simp only at wh
     subst wh
     simp [execOp, resolve, invoke, builtin]
    unfold Oper.wp
    rw [rK]
    simp only [Sem.run_bind, ai, Result.andThen]
    exact bd _ _ _ aE (Rel.put jD e3 ij aj aP al)
 | _ =>
   rcases nX cQ with ae | ae
   ·cases ae
   ·exact PG bA h ae al hw bd
end
end Go.dg
