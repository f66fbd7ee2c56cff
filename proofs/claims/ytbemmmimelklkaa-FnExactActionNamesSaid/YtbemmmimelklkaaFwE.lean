/- Part of a proof that a law returns true for every input. No condition. -/
import Derived.Test.YtbemmmimelklkaaFwD
import Derived.Laws.Tables
namespace Go.cB
section
variable {C : bZ} {w0 w : World} {F0 X F : Nat → Prop} {S : Nat → Nat → Prop} {s s1 : aj} {az : Nat → Value} {av : I}
theorem wk (z : List Value) : ∀ n, (List.range (n * z.length)).map (fun i => z[i % z.length]!) = (List.replicate n z).flatten
 | 0 => by simp
 | n + 1 => by
   rw [Nat.add_mul, Nat.one_mul, List.range_add, List.map_append, wk z n, List.replicate_succ', List.flatten_append]
   congr 1
   simp only [List.map_map, List.flatten_cons, List.flatten_nil, List.append_nil]
   apply List.ext_getElem
   ·simp
   ·intro i ab af
    have ak : i < z.length := af
    simp [Nat.mod_eq_of_lt ak, ak]
theorem a6.replicate {d : I} {cs : List Value} (h : ∀ aL, ax w F d cs aL) : ∀ n aL, a6 w F (List.replicate n d) (List.replicate n cs).flatten aL
 | 0, aL => by simp only [List.replicate_zero, List.flatten_nil]; rw [a6]
 | n + 1, aL => by
   rw [List.replicate_succ, List.replicate_succ, List.flatten_cons, a6]
   exact ⟨cs, _, fun _ => False, fun _ => False, rfl, h _, a6.replicate h n _, fun _ h => h.elim, fun _ h => h.elim, fun _ h => h.elim⟩
def eG (C : bZ) (T : TypeId) (l c : I) : Option I :=
 match (C.T T).k, l, c with
 | .slice e, .int .i64 n, .int .i64 m => if n = m ∧ 0 ≤ n ∧ (C.T e).ok = true ∧ (C.T e).zero.wd = (C.T e).sz ∧ (flat (C.T e).zero).isSome = true ∧ (C.T e).sz ≠ 0 ∧ (C.T e).bytes * n ≤ 140737488355328 ∧ n ≤ 9223372036854775807 then
   some (.aE (C.T e).sz (List.replicate n.toNat (C.T e).zero)) else none
 | _, _, _ => none
theorem Kq (bp : C.Ok) (h : bE w0 F0 X F S s az w) {T : TypeId} {l c : I} {DA DB : Value} (hl : aH w F s az l DA (fun _ => False)) (al : aH w F s az c DB (fun _ => False)) (he : eG C T l c = some av) :
  Good C w0 F0 X az w (Instr.makeSlice T DA DB) av s := by
 unfold eG at he
 split at he
 ·rename_i e n m ay
  have := nG hl; subst this
  have := nG al; subst this
  obtain ⟨zJ, d, zK, aJ, aP, a_, cD, c4, b8, b2⟩ := bp.info (fS ay (by simp))
  rw [ay] at b2
  have := jB b2; subst this
  split at he
  ·rename_i py
   obtain ⟨rfl, bl, mu, m9, nL, dB, DC, zN⟩ := py
   simp only [Option.some.injEq] at he; subst he
   obtain ⟨i, zL, z, f1, f2, f3, f4, f5, f6, f7⟩ := bp.info mu
   obtain ⟨dW, j1⟩ := Option.isSome_iff_exists.1 nL
   have nM := f5 dW j1
   have gU : ∀ aL, ax w F (C.T e).zero dW aL := fun aL => (ax.flat _).1 _ dW aL (Nat.le_refl _) j1
   have mw : dW.length = (C.T e).sz := by rw [ax.length _ _ _ (gU (fun _ => False)), m9]
   obtain ⟨n, rfl⟩ := Int.eq_ofNat_of_zero_le bl
   simp only [Int.toNat_natCast]
   have re : IntKind.i64.wrap (n : Int) = n := by
    rw [IntKind.wrap_i64]; omega
   have ra : ∀ k (w : World), (askRoom k).run C.P w = .ok () w := by
    intro k w
    unfold askRoom
    split <;> rfl
   have nF : ((Array.range (n * (C.T e).sz)).map (dW.toArray[· % dW.toArray.size]!)).toList = (List.replicate n dW).flatten := by
    have := wk dW n
    rw [mw] at this
    simpa [mw] using this
   have dQ : ¬ (281474976710656 < (i.bytes : Int) * n) := by
    rw [f3]; omega
   have wm : ¬ ((n : Int) < 0) := by omega
   have run : (Instr.makeSlice T (.int .i64 n) (.int .i64 n)).run C.P w = .ok (.slice (some ⟨w.heap.size, 0, none⟩) n n)
     (w.alloc (.cells (if n * (C.T e).sz = 0 then (Array.range (n * (C.T e).sz)).map (fun _ => default) else (Array.range (n * (C.T e).sz)).map (dW.toArray[· % dW.toArray.size]!)) e)) := by
    by_cases bh : n * (C.T e).sz = 0
    ·simp [Instr.makeSlice, run_underlying b8, asInt, asIntOf, pr f1, re, dQ, wm, ra, iI f1, f2, bh, newRow]
    ·simp only [bh, if_false]
     simp [Instr.makeSlice, run_underlying b8, asInt, asIntOf, pr f1, re, dQ, wm, ra, iI f1, f2, bh, newRow, q3 f1 f4, nM]
   have jw : (if n * (C.T e).sz = 0 then (Array.range (n * (C.T e).sz)).map (fun _ => (default : Value)) else (Array.range (n * (C.T e).sz)).map (dW.toArray[· % dW.toArray.size]!)).toList = (List.replicate n dW).flatten := by
    split
    ·rename_i bh
     have : n = 0 := by
      rcases Nat.mul_eq_zero.1 bh with h | h
      ·exact h
      ·exact (dB h).elim
     subst this
     simp
    ·exact nF
   generalize pG : (if n * (C.T e).sz = 0 then (Array.range (n * (C.T e).sz)).map (fun _ => (default : Value)) else (Array.range (n * (C.T e).sz)).map (dW.toArray[· % dW.toArray.size]!)) = cur at run jw
   have jX : (List.replicate n dW).flatten.length = n * (C.T e).sz := by simp [mw]
   have hr : cur.size = n * (C.T e).sz := by
    have : cur.size = cur.toList.length := by simp
    rw [this, jw, jX]
   have iL := h.s0 (aD := w.alloc (.cells cur e)) (sz := (C.T e).sz) (cap := n) (xs := List.replicate n (C.T e).zero) (cur := cur) (e := e) (fr := (0, 0)) (Sn := fun _ => False) rfl rfl rfl rfl
    (fun o _ ⟨_, af⟩ => absurd af (Nat.not_lt_zero _)) (by simp) (by unfold maxLen; omega) hr (by intro d ah; rw [List.eq_of_mem_replicate ah]; exact m9)
    (by rw [jw, List.length_replicate, List.take_of_length_le (by rw [jX]; exact Nat.le_refl _)]; exact a6.replicate gU n _) (fun _ h => h.elim) (fun _ h => h.elim) (fun _ _ h => h.elim) (fun _ h => h.elim)
   rw [List.length_replicate] at iL
   exact ⟨_, _, F, S, run, iL.1, iL.2⟩
  ·cases he
 ·cases he
def lN (C : bZ) (T bx : TypeId) (x y : I) : Option I :=
 match (C.T T).k, (C.T bx).k, x, y with
 | .slice e, .int _, .bA, .int .i64 n => if 0 ≤ n ∧ (C.T e).ok = true ∧ (C.T e).zero.wd = (C.T e).sz ∧ (flat (C.T e).zero).isSome = true ∧ (C.T e).sz ≠ 0 ∧ (C.T e).bytes * n ≤ 140737488355328 ∧ n ≤ 9223372036854775807 then
   some (.aE (C.T e).sz (List.replicate n.toNat (C.T e).zero)) else none
 | _, _, _, _ => none
theorem Kr {P : Program} {T bx ty e : TypeId} {k : IntKind} {i : TypeInfo} {z : Value} (aZ : P.underlying T = some (.slice e)) (hu : P.underlying bx = some (.int k)) (ak : P.info? e = some i) (bG : i.zero = some z)
  (n : Nat) (bh : n ≠ 0) (aa : i.size ≠ 0) (bl : n ≤ 9223372036854775807) (U : n * i.bytes ≤ 140737488355328) :
  (Builtin.append_ #[T, bx] ty #[.slice none 0 0, .int .i64 n]).run P w = .ok (.slice (some ⟨w.heap.size, 0, none⟩) n (grownCap w n 0 e))
   (w.drew.alloc (.cells (Builtin.zeroCells z.cells n ++ Builtin.zeroCells z.cells (grownCap w n 0 e - n)) e)) := by
 have re : IntKind.i64.wrap (n : Int) = n := by rw [IntKind.wrap_i64]; omega
 have wm : ¬ ((n : Int) < 0) := by omega
 have hmul : (n : Int) * (i.bytes : Int) = ((n * i.bytes : Nat) : Int) := by simp
 have dQ : ¬ (281474976710656 < (n : Int) * (i.bytes : Int)) := by rw [hmul]; omega
 have iJ : ¬ (281474976710656 < Builtin.nextslicecap n 0 * i.bytes) := by
  have : Builtin.nextslicecap n 0 = n := by unfold Builtin.nextslicecap; rw [if_pos (by omega)]
  rw [this]; omega
 have ra : ∀ k (w : World), (askRoom k).run P w = .ok () w := by
  intro k w
  unfold askRoom
  split <;> rfl
 have zG : ¬ (9223372036854775807 < (n : Int)) := by omega
 have zQ : n * i.size ≠ 0 := Nat.mul_ne_zero bh aa
 simp [Builtin.append_, run_underlying aZ, run_underlying hu, iI ak, pr ak, asInt, asIntOf, re, wm, dQ, iJ, bh, Question.forced, ra, zG, q3 ak bG, newRow, grownCap, Builtin.firstCells]
 intro jz; exact (zQ jz).elim
theorem Ks (bp : C.Ok) (h : bE w0 F0 X F S s az w) {T bx ty : TypeId} {x y : I} {iK h7 : Value} (au : aH w F s az x iK (fun _ => False)) (bC : aH w F s az y h7 (fun _ => False)) (he : lN C T bx x y = some av) :
  Good C w0 F0 X az w (Builtin.append_ #[T, bx] ty #[iK, h7]) av s := by
 unfold lN at he
 split at he
 ·rename_i e agZ n ay DD
  have := nH au; subst this
  have := nG bC; subst this
  obtain ⟨zJ, d, zK, aJ, aP, a_, cD, c4, b8, b2⟩ := bp.info (fS ay (by simp))
  rw [ay] at b2
  have := jB b2; subst this
  obtain ⟨ag0, ag1, ag2, pH, wo, zR, ta, ag3, zS, DE⟩ := bp.info (fS DD (by simp))
  rw [DD] at DE
  have := vV DE; subst this
  split at he
  ·rename_i py
   obtain ⟨bl, mu, m9, nL, dB, DC, zN⟩ := py
   simp only [Option.some.injEq] at he; subst he
   obtain ⟨i, zL, z, f1, f2, f3, f4, f5, f6, f7⟩ := bp.info mu
   obtain ⟨dW, j1⟩ := Option.isSome_iff_exists.1 nL
   have nM := f5 dW j1
   have gU : ∀ aL, ax w F (C.T e).zero dW aL := fun aL => (ax.flat _).1 _ dW aL (Nat.le_refl _) j1
   have mw : dW.length = (C.T e).sz := by rw [ax.length _ _ _ (gU (fun _ => False)), m9]
   obtain ⟨n, rfl⟩ := Int.eq_ofNat_of_zero_le bl
   simp only [Int.toNat_natCast]
   by_cases bh : n = 0
   ·subst bh
    have run : (Builtin.append_ #[T, bx] ty #[.slice none 0 0, .int .i64 ((0 : Nat) : Int)]).run C.P w = .ok (.slice none 0 0) w := by
     have re : IntKind.i64.wrap 0 = 0 := by decide
     simp [Builtin.append_, run_underlying b8, run_underlying zS, iI f1, pr f1, asInt, asIntOf, re]
    exact ⟨_, w, F, S, run, h, .inr ⟨rfl, rfl, fun _ => False, by simp only [cm, gJ]; rw [ax]; exact .inl ⟨rfl, _, rfl⟩, fun _ h => h.elim, fun _ h => h.elim, fun _ _ h => h.elim, fun _ h => h.elim⟩⟩
   ·have run := Kr (w := w) (ty := ty) b8 zS f1 f4 n bh (by rw [f2]; exact dB) (by omega) (by
     rw [f3]
     have : ((C.T e).bytes : Int) * (n : Int) = (((C.T e).bytes * n : Nat) : Int) := by simp
     rw [this] at DC
     rw [Nat.mul_comm]; omega)
    rw [nM] at run
    have s5 := grownCap_ge w n 0 e
    have s6 := grownCap_le_maxLen w n 0 e (by unfold maxLen; omega)
    have DF : ∀ m, (Builtin.zeroCells dW.toArray m).toList = (List.replicate m dW).flatten := by
     intro m
     have := wk dW m
     unfold Builtin.zeroCells
     simpa [mw] using this
    have jX : ∀ m, (List.replicate m dW).flatten.length = m * (C.T e).sz := by intro m; simp [mw]
    generalize pG : Builtin.zeroCells dW.toArray n ++ Builtin.zeroCells dW.toArray (grownCap w n 0 e - n) = cur at run
    have jw : cur.toList = (List.replicate n dW).flatten ++ (List.replicate (grownCap w n 0 e - n) dW).flatten := by rw [← pG, Array.toList_append, DF, DF]
    have hr : cur.size = grownCap w n 0 e * (C.T e).sz := by
     have : cur.size = cur.toList.length := by simp
     rw [this, jw, List.length_append, jX, jX, ← Nat.add_mul]
     congr 1; omega
    have iL := h.s0 (aD := w.drew.alloc (.cells cur e)) (sz := (C.T e).sz) (cap := grownCap w n 0 e) (xs := List.replicate n (C.T e).zero) (cur := cur) (e := e) (fr := (0, 0)) (Sn := fun _ => False) rfl rfl rfl rfl
     (fun o _ ⟨_, af⟩ => absurd af (Nat.not_lt_zero _)) (by simpa using s5) s6 hr (by intro d ah; rw [List.eq_of_mem_replicate ah]; exact m9)
     (by rw [jw, List.length_replicate, List.take_left' (jX n)]; exact a6.replicate gU n _) (fun _ h => h.elim) (fun _ h => h.elim) (fun _ _ h => h.elim) (fun _ h => h.elim)
    rw [List.length_replicate] at iL
    exact ⟨_, _, F, S, run, iL.1, iL.2⟩
  ·cases he
 ·cases he
def hd (s : aj) (f : FuncId) (cs : List aA) : Option I := some (.fn f (cs.map (aG s)))
theorem wq {a : Act} (h : bE w0 F0 X F S s az w) (dC : ∀ t, az t = a.tmps.getD t undef) : ∀ (os : List Operand) (xs : List aA), os.map db = xs.map some → dE w F s az (xs.map (aG s)) (os.map a.eval)
 | [], [], _ => by simp only [List.map_nil]; rw [dE]
 | [], x :: xs, h => by simp at h
 | o :: os, [], h => by simp at h
 | o :: os, x :: xs, bq => by
   simp only [List.map_cons, List.cons.injEq] at bq ⊢
   rw [dE]
   exact ⟨_, _, rfl, (fg h dC bq.1).2, wq h dC os xs bq.2⟩
theorem DG : ∀ (vs : List Value) (k off : Nat) (A : Array Value) (l m r : List Value), A.toList = l ++ (m ++ r) → l.length = off + k → m.length = vs.length →
  ((vs.zipIdx k).foldl (fun cs (x : Value × Nat) => cs.setIfInBounds (off + x.2) x.1) A).toList = l ++ (vs ++ r)
 | [], k, off, A, l, m, r, hx, hl, hm => by
   have : m = [] := by simpa using hm
   subst this
   simpa using hx
 | v :: vs, k, off, A, l, m, r, hx, hl, hm => by
   obtain ⟨x, m, rfl⟩ : ∃ x hs, m = x :: hs := by
    cases m with
    | nil => simp at hm
    | cons x m => exact ⟨x, m, rfl⟩
   rw [List.zipIdx_cons, List.foldl_cons]
   have := DG vs (k + 1) off (A.setIfInBounds (off + k) v) (l ++ [v]) m r (by
    rw [Array.toList_setIfInBounds, hx, ← hl, List.set_append_right _ _ (Nat.le_refl _)]
    simp) (by simp; omega) (by simpa using hm)
   simpa using this
def lO (os : List (Option Nat)) (a : I) : I := os.foldl (fun a o => jf o a) a
def dI (place : Nat → Option (Nat × Nat)) : aj → List I → List (Option Nat) → List (Nat × I) → Option (List I × aj)
 | s, zs, _, [] => some (zs, s)
 | s, zs, os, (k, a) :: r => match ct s (lO os a), place k, zs[k]? with
   | some (d, s1), some (off, n), some z => match d with
     | .tuple _ => none
     | d => if d.wd = n ∧ z.wd = n ∧ I.dp (zs.take k) = off then dI place s1 (zs.set k d) (os ++ [(lO os a).owner]) r else none
   | _, _, _ => none
def lP (w : World) (F : Nat → Prop) (s : aj) (az : Nat → Value) : List (Nat × I) → List (Nat × Value) → Prop
 | [], [] => True
 | (k, a) :: r, (cE, v) :: hf => k = cE ∧ a.plain = true ∧ aH w F s az a v (fun _ => False) ∧ lP w F s az r hf
 | _, _ => False
theorem Kt (x : Nat) : ∀ d : I, d.plain = true → (bW x d).plain = true
 | .h y q, _ => by simp only [bW]; split <;> (try split) <;> rfl
 | .an y q, _ => by simp only [bW]; split <;> rfl
 | .U y q, _ => rfl
 | .fn f c, _ => by simp only [bW]; rfl
 | .hole, h => h
 | .bool _, h => h
 | .dV, h => h
 | .int _ _, h => h
 | .str _, h => h
 | .c7, h => h
 | .bA, h => h
 | .slice _, h => h
 | .aE _ _, h => h
 | .ref _, h => h
 | .bd _, h => h
 | .agg _, h => h
 | .tuple _, h => h
theorem Ku (o : Option Nat) (d : I) (h : d.plain = true) : (jf o d).plain = true := by
 cases o with
 | none => exact h
 | some x => exact Kt x d h
theorem lP.bW {w : World} {F : Nat → Prop} {s s1 : aj} {az : Nat → Value} {o : Option Nat} (an : ∀ (br : I) (fp : Value) (aL : Nat → Prop), aH w F s az br fp aL → aH w F s1 az (jf o br) fp aL) :
  ∀ (r : List (Nat × I)) (hf : List (Nat × Value)), lP w F s az r hf → lP w F s1 az (r.map fun p => (p.1, jf o p.2)) hf
 | [], [], _ => trivial
 | (k, a) :: r, (cE, v) :: hf, h => by
   obtain ⟨ab, af, aF, bb⟩ := h
   exact ⟨ab, Ku _ _ af, an _ _ _ aF, lP.bW an r hf bb⟩
 | [], _ :: _, h => h.elim
 | _ :: _, [], h => h.elim
theorem zT {place : Nat → Option (Nat × Nat)} : ∀ (ps : List (Nat × I)) (vs : List (Nat × Value)) (os : List (Option Nat)) (s : aj) (S : Nat → Nat → Prop) (zs : List I) (A : Array Value) (gq : Nat → Prop),
  bE w0 F0 X F S s az w → lP w F s az (ps.map fun p => (p.1, lO os p.2)) vs → a6 w F zs A.toList gq → (∀ b, gq b → b < w.heap.size) → (∀ b, gq b → ¬ F b) → (∀ u b, gq b → ¬ S u b) → (∀ b, gq b → X b ∨ w0.heap.size ≤ b) →
  ∀ ds s1, dI place s zs os ps = some (ds, s1) → ∃ ko b1 fJ, Instr.fill place A vs = some ko ∧ bE w0 F0 X F b1 s1 az w ∧ a6 w F ds ko.toList fJ ∧ (∀ b, fJ b → b < w.heap.size) ∧ (∀ b, fJ b → ¬ F b) ∧ (∀ u b, fJ b → ¬ b1 u b) ∧
    (∀ b, fJ b → X b ∨ w0.heap.size ≤ b) ∧ ds.length = zs.length ∧ I.dp ds = I.dp zs ∧ (∀ n, (∀ d ∈ zs, d.wd = n) → ∀ d ∈ ds, d.wd = n)
 | [], [], os, s, S, zs, A, gq, h, _, ab, af, aF, bb, bV, ds, s1, he => by
   simp only [dI, Option.some.injEq, Prod.mk.injEq] at he
   obtain ⟨rfl, rfl⟩ := he
   exact ⟨A, S, gq, rfl, h, ab, af, aF, bb, bV, rfl, rfl, fun _ h => h⟩
 | (k, a) :: ps, (cE, v) :: vs, os, s, S, zs, A, gq, h, an, ab, af, aF, bb, bV, ds, s1, he => by
   obtain ⟨rfl, ji, ml, tb⟩ := an
   simp only [dI] at he
   split at he
   ·rename_i d rf off n z aZ fj bG
    have key : ∀ d : I, (∀ aw, d ≠ .tuple aw) → ct s (lO os a) = some (d, rf) → (if d.wd = n ∧ z.wd = n ∧ I.dp (zs.take k) = off then dI place rf (zs.set k d) (os ++ [(lO os a).owner]) ps else none) = some (ds, s1) →
      ∃ ko b1 fJ, Instr.fill place A ((k, v) :: vs) = some ko ∧ bE w0 F0 X F b1 s1 az w ∧ a6 w F ds ko.toList fJ ∧ (∀ b, fJ b → b < w.heap.size) ∧ (∀ b, fJ b → ¬ F b) ∧ (∀ u b, fJ b → ¬ b1 u b) ∧
      (∀ b, fJ b → X b ∨ w0.heap.size ≤ b) ∧ ds.length = zs.length ∧ I.dp ds = I.dp zs ∧ (∀ n, (∀ d ∈ zs, d.wd = n) → ∀ d ∈ ds, d.wd = n) := by
     intro d nE aZ he
     split at he
     ·rename_i al
      obtain ⟨mx, lG, DH⟩ := al
      obtain ⟨b1, gr, aY, bs, Sn, b_, dq, ey, gT, ht, jY, s9, wh⟩ := oo h ji ml aZ
      obtain ⟨cr, fc, cu, Sx, iV, hx, gQ, fo, gi, gR, fX, kD⟩ := a6.pick zs _ _ k z ab bG
      have nF := v_ bs nE
      have nc := ax.length _ _ _ b_
      have DI := ax.length _ _ _ fX
      have ov := kD w d (cm v) Sn (fun _ _ => rfl) (fun _ _ => rfl) b_ (fun b Kv Kw => by obtain ⟨u, hu⟩ := s9 b Kv; exact bb u b (fo b Kw) hu)
      have DJ := DG (cm v) 0 off A cr fc cu hx (by rw [gQ, DH]; rfl) (by rw [DI, nc, mx, lG])
      generalize tc : ((cm v).zipIdx 0).foldl (fun cs (x : Value × Nat) => cs.setIfInBounds (off + x.2) x.1) A = zU at DJ
      obtain ⟨ko, dg, fJ, eV, fY, gK, jZ, lH, dj, mo, fl, zV, wt⟩ := zT (place := place) ps vs (os ++ [(lO os a).owner]) rf b1 (zs.set k d) zU (fun b => Sx b ∨ Sn b) gr (by have := lP.bW wh _ _ tb; simpa [lO, List.foldl_append, Function.comp_def] using this) (by rw [DJ]; exact ov)
       (by rintro b (U | U); exact af b (fo b U); exact dq b U) (by rintro b (U | U); exact aF b (fo b U); exact ey b U)
       (by rintro u b (U | U); exact fun hu => bb u b (fo b U) (jY u b hu); exact gT u b U) (by rintro b (U | U); exact bV b (fo b U); exact ht b U) ds s1 he
      refine ⟨ko, dg, fJ, ?_, fY, gK, jZ, lH, dj, mo, by rw [fl]; simp, by rw [zV]; exact y9 _ _ _ _ bG (by rw [mx, lG]), ?_⟩
      ·have zW : off + n ≤ A.size := by
        have : A.size = A.toList.length := by simp
        rw [this, hx]; simp [gQ, DH, DI, lG]
       simp only [Instr.fill, fj, nF, List.size_toArray, nc, mx]
       have lE : ¬ (n ≠ n ∨ A.size < off + n) := by omega
       have Kx : (cm v).toArray.zipIdx.foldl (fun cs (x : Value × Nat) => cs.setIfInBounds (off + x.2) x.1) A = zU := by
        rw [← tc, ← Array.foldl_toList]; simp
       simp only [ne_eq, not_true_eq_false, decide_false, Bool.false_or, decide_eq_true_eq, gt_iff_lt]
       rw [if_neg (by simp; omega)]
       rw [show (cm v).toArray.zipIdx.foldl (fun cs x => match x with | (c, j) => cs.setIfInBounds (off + j) c) A = zU from Kx]
       exact eV
      ·intro zX td
       refine wt zX (y_ td ?_)
       rw [mx, ← lG]; exact td z (List.mem_of_getElem? bG)
     ·cases he
    split at he
    ·cases he
    ·rename_i nE
     exact key _ (fun aw e => nE aw e) aZ he
   ·cases he
 | [], _ :: _, _, _, _, _, _, _, _, an, _, _, _, _, _, _, _, _ => an.elim
 | _ :: _, [], _, _, _, _, _, _, _, an, _, _, _, _, _, _, _, _ => an.elim
def eQ (C : bZ) (s : aj) (T : TypeId) (ps : List (Nat × I)) : Option (I × aj) :=
 match (C.T T).k, (C.T T).zero with
 | .struct aw, .agg zs => if (flat (.agg zs)).isSome = true ∧ (∀ f ∈ aw, (C.T f.1).ok = true) then
   (match dI (fun k => (aw[k]?).map fun f => (f.2, (C.T f.1).sz)) s zs [] ps with
   | some (ds, s1) => some (.agg ds, s1)
   | none => none) else none
 | _, _ => none
def dN (C : bZ) (s : aj) (T : TypeId) (n : Nat) (ps : List (Nat × I)) : Option (I × aj) :=
 match (C.T T).k with
 | .slice e => if (C.T e).ok = true ∧ (C.T e).zero.wd = (C.T e).sz ∧ (flat (C.T e).zero).isSome = true ∧ (C.T e).sz ≠ 0 ∧ n * (C.T e).sz ≤ 16777216 then
   (match dI (fun k => some (k * (C.T e).sz, (C.T e).sz)) s (List.replicate n (C.T e).zero) [] ps with
   | some (ds, s1) => some (.aE (C.T e).sz ds, s1)
   | none => none) else none
 | _ => none
theorem Ky (bp : C.Ok) : ∀ (gs : List Field), (∀ g ∈ gs, (C.T g.type).ok = true) →
  gs.mapM (fun f => (C.P.info? f.type).map fun i => (f.offset, i.size)) = some (gs.map fun g => (g.offset, (C.T g.type).sz)) := by
 intro gs
 induction gs with
 | nil => intro _; simp
 | cons g gs ih =>
   intro bO
   obtain ⟨i, d, z, f1, f2, f3, f4, f5, f6, f7⟩ := bp.info (bO g (by simp))
   have := ih (fun g gu => bO g (by simp [gu]))
   simp [List.mapM_cons, f1, f2, this]
theorem Kz (bp : C.Ok) (h : bE w0 F0 X F S s az w) {T : TypeId} {ps : List (Nat × I)} {vs : List (Nat × Value)} (an : lP w F s az ps vs) (he : eQ C s T ps = some (av, s1)) :
  Good C w0 F0 X az w (Instr.build T vs.toArray) av s1 := by
 unfold eQ at he
 split at he
 ·rename_i aw zs ay bG
  split at he
  ·rename_i al
   obtain ⟨nL, KA⟩ := al
   split at he
   ·rename_i ds s2 jX
    simp only [Option.some.injEq, Prod.mk.injEq] at he
    obtain ⟨rfl, rfl⟩ := he
    obtain ⟨i, d, z, aJ, aP, a_, cD, c4, b8, b2⟩ := bp.info (fS ay (by simp))
    rw [ay] at b2
    obtain ⟨gs, rfl, DK⟩ := zt b2
    obtain ⟨dW, j1⟩ := Option.isSome_iff_exists.1 nL
    have nM := c4 dW (by rw [bG]; exact j1)
    have gU : a6 w F zs dW.toArray.toList (fun _ => False) := by
     have := (ax.flat (w := w) (F := F) _).1 (.agg zs) dW (fun _ => False) (Nat.le_refl _) j1
     rw [ax] at this
     simpa using this
    have dA : lP w F s az (ps.map fun p => (p.1, lO [] p.2)) vs := by simpa [lO] using an
    obtain ⟨ko, b1, fJ, eV, fY, gK, jZ, lH, dj, mo, fl, zV, wt⟩ := zT ps vs [] s S zs dW.toArray (fun _ => False) h dA gU (fun _ h => h.elim) (fun _ h => h.elim) (fun _ _ h => h.elim) (fun _ h => h.elim) ds s2 jX
    have fj := Ky bp gs.toList (fun g bO => KA (g.type, g.offset) (by rw [← DK]; exact List.mem_map_of_mem bO))
    have KB : (fun (k : Nat) => (aw[k]?).map fun (f : TypeId × Nat) => (f.2, (C.T f.1).sz)) = fun (k : Nat) => ((gs.toList.map fun g => (g.offset, (C.T g.type).sz)).toArray)[k]? := by
     funext k
     rw [← DK]
     simp only [List.getElem?_map, List.getElem?_toArray, Option.map_map]
     rfl
    rw [KB] at eV
    refine ⟨.agg ko, w, F, b1, run_build w T vs.toArray ko ?_, fY, .inr ⟨rfl, ⟨_, rfl⟩, fJ, by simp only [cm, gJ]; rw [ax]; exact gK, jZ, lH, dj, mo⟩⟩
    unfold Program.built
    simp only [aJ, b8, cD, fj, nM]
    exact eV
   ·cases he
  ·cases he
 ·cases he
theorem KC (bp : C.Ok) (h : bE w0 F0 X F S s az w) {T : TypeId} {n : Nat} {ps : List (Nat × I)} {vs : List (Nat × Value)} (an : lP w F s az ps vs) (he : dN C s T n ps = some (av, s1)) :
  Good C w0 F0 X az w (Instr.buildSlice T n vs.toArray) av s1 := by
 unfold dN at he
 split at he
 ·rename_i e ay
  split at he
  ·rename_i al
   obtain ⟨mu, m9, nL, dB, ag4⟩ := al
   split at he
   ·rename_i ds s2 jX
    simp only [Option.some.injEq, Prod.mk.injEq] at he
    obtain ⟨rfl, rfl⟩ := he
    obtain ⟨zJ, d, zK, aJ, aP, a_, cD, c4, b8, b2⟩ := bp.info (fS ay (by simp))
    rw [ay] at b2
    have := jB b2; subst this
    obtain ⟨i, zL, z, f1, f2, f3, f4, f5, f6, f7⟩ := bp.info mu
    obtain ⟨dW, j1⟩ := Option.isSome_iff_exists.1 nL
    have nM := f5 dW j1
    have gU : ∀ aL, ax w F (C.T e).zero dW aL := fun aL => (ax.flat _).1 _ dW aL (Nat.le_refl _) j1
    have mw : dW.length = (C.T e).sz := by rw [ax.length _ _ _ (gU (fun _ => False)), m9]
    generalize hx : ((Array.range (n * (C.T e).sz)).map ((if n * (C.T e).sz = 0 then #[] else dW.toArray)[· % (if n * (C.T e).sz = 0 then (#[] : Array Value) else dW.toArray).size]!)) = A
    have zW : A.toList = (List.replicate n dW).flatten := by
     rw [← hx]
     by_cases bh : n * (C.T e).sz = 0
     ·have : n = 0 := by
       rcases Nat.mul_eq_zero.1 bh with h | h
       ·exact h
       ·exact (dB h).elim
      subst this
      simp
     ·simp only [bh, if_false]
      have := wk dW n
      rw [mw] at this
      simpa [mw] using this
    have dA : lP w F s az (ps.map fun p => (p.1, lO [] p.2)) vs := by simpa [lO] using an
    obtain ⟨ko, b1, fJ, eV, fY, gK, jZ, lH, dj, mo, fl, zV, wt⟩ := zT ps vs [] s S (List.replicate n (C.T e).zero) A (fun _ => False) h dA (by rw [zW]; exact a6.replicate gU n _) (fun _ h => h.elim) (fun _ h => h.elim) (fun _ _ h => h.elim) (fun _ h => h.elim) ds s2 jX
    have hlen : ds.length = n := by rw [fl]; simp
    have DL := wt (C.T e).sz (by intro d ah; rw [List.eq_of_mem_replicate ah]; exact m9)
    have KD : ko.toList.length = n * (C.T e).sz := by rw [a6.pE gK DL, hlen]
    have KE : ko.size = n * (C.T e).sz := by rw [← KD]; simp
    have ag5 : n ≤ 16777216 := by
     have : n * 1 ≤ n * (C.T e).sz := Nat.mul_le_mul_left _ (by omega)
     omega
    have iL := fY.s0 (aD := w.alloc (.cells ko e)) (sz := (C.T e).sz) (cap := n) (xs := ds) (cur := ko) (e := e) (fr := (0, 0)) (Sn := fJ) rfl rfl rfl rfl
     (fun o _ ⟨_, af⟩ => absurd af (Nat.not_lt_zero _)) (by omega) (by unfold maxLen; omega) KE DL (by rw [hlen, List.take_of_length_le (by omega)]; exact gK) jZ lH dj mo
    rw [hlen] at iL
    refine ⟨_, _, F, b1, ?_, iL.1, iL.2⟩
    by_cases bh : n * (C.T e).sz = 0
    ·simp only [bh, if_true] at hx
     have rh : (Array.map (fun _ => (default : Value)) (Array.range 0)) = A := by
      have : n = 0 := by
       rcases Nat.mul_eq_zero.1 bh with h | h
       ·exact h
       ·exact (dB h).elim
      apply Array.ext'
      rw [zW, this]
      simp
     simp [Instr.buildSlice, run_underlying b8, iI f1, f2, bh, newRow]
     rw [rh, eV]
     simp
    ·simp only [bh, if_false] at hx
     have lE : ¬ (16777216 < n * (C.T e).sz) := by omega
     simp [Instr.buildSlice, run_underlying b8, iI f1, f2, bh, lE, q3 f1 f4, nM, newRow]
     have rh : (Array.map (fun x => dW[x % dW.length]?.getD default) (Array.range (n * (C.T e).sz))) = A := by
      rw [← hx]; simp
     rw [rh, eV]
     simp
   ·cases he
  ·cases he
 ·cases he
end
inductive eX where
 | ag (x : aA)
 | ai (x : aA)
 | pick (c a b : aA)
 | dS (T : TypeId)
 | di (T : TypeId) (x : aA)
 | eQ (T : TypeId) (ps : List (Nat × aA))
 | dN (T : TypeId) (n : Nat) (ps : List (Nat × aA))
 | aM (T : TypeId) (x : aA)
 | cP (T : TypeId) (x y : aA)
 | dz (x : aA)
 | aB (op : BinOp) (T : TypeId) (x y : aA)
 | un (op : UnOp) (x : aA)
 | eP (A B : TypeId) (x : aA)
 | hd (f : FuncId) (cs : List aA)
 | eG (T : TypeId) (l c : aA)
 | ed (T : TypeId) (x : aA) (cF ak : Option aA)
 | bc (T : TypeId) (x : aA) (k : Nat)
 | bX (T : TypeId) (x i : aA)
 | idx (T : TypeId) (x i : aA)
 | ex (x : aA) (k : Nat)
 | call (f : aA) (args : List aA)
 | len (T : TypeId) (x : aA)
 | app (T bx : TypeId) (x y : aA)
 | shr (bu : eX)
 | lN (T bx : TypeId) (x y : aA)
 | cap (T : TypeId) (x : aA)
 | nd (gn : Bool) (x y : aA)
 | bad
 | kI (f : aA) (args : List aA) (u x : Nat)
 | kJ (f : aA) (args : List aA) (us : List Nat)
 | j0 (T : TypeId) (x : aA)
def eX.base : eX → eX
 | .shr bu => bu
 | .lN T bx x y => .app T bx x y
 | .kI f args _ _ => .call f args
 | .kJ f args _ => .call f args
 | .j0 T x => .di T x
 | bu => bu
def my : List Operand → Option (List aA)
 | [] => some []
 | o :: os => match db o, my os with
   | some x, some xs => some (x :: xs)
   | _, _ => none
def ri : List (Nat × Operand) → Option (List (Nat × aA))
 | [] => some []
 | (k, o) :: os => match db o, ri os with
   | some x, some xs => some ((k, x) :: xs)
   | _, _ => none
def te : Option Operand → Option (Option aA)
 | none => some none
 | some o => (db o).map some
def cJ : Op → Option eX
 | .move x => (db x).map .ag
 | .assign x => (db x).map .ai
 | .pick c a b => match db c, db a, db b with
   | some c, some a, some b => some (.pick c a b)
   | _, _, _ => none
 | .alloc T => some (.dS T)
 | .box T x => (db x).map (.di T)
 | .build T ps => (ri ps.toList).map (.eQ T)
 | .buildSlice T n ps => (ri ps.toList).map (.dN T n)
 | .load T x => (db x).map (.aM T)
 | .store T x y => match db x, db y with
   | some x, some y => some (.cP T x y)
   | _, _ => none
 | .nilCheck x => (db x).map .dz
 | .binOp op T x y _ => match db x, db y with
   | some x, some y => some (.aB op T x y)
   | _, _ => none
 | .unOp op _ x => (db x).map (.un op)
 | .convert A B x => (db x).map (.eP A B)
 | .makeFunc (.func f) first cs => if first.isEmpty then (my cs.toList).map (.hd f) else none
 | .makeSlice T l c => match db l, db c with
   | some l, some c => some (.eG T l c)
   | _, _ => none
 | .slice T x cF ak none => match db x, te cF, te ak with
   | some x, some cF, some ak => some (.ed T x cF ak)
   | _, _, _ => none
 | .fieldAddr T x k => (db x).map fun x => .bc T x k
 | .indexAddr T x i => match db x, db i with
   | some x, some i => some (.bX T x i)
   | _, _ => none
 | .index T x i => match db x, db i with
   | some x, some i => some (.idx T x i)
   | _, _ => none
 | .extract x k => (db x).map fun x => .ex x k
 | .call c => match c.callee with
   | .value f => match db f, my c.args.toList with
     | some f, some xs => some (.call f xs)
     | _, _ => none
   | .builtin .len => match c.args.toList, c.argTypes.toList with
     | [x], [T] => (db x).map (.len T)
     | _, _ => none
   | .builtin .cap => match c.args.toList, c.argTypes.toList with
     | [x], [T] => (db x).map (.cap T)
     | _, _ => none
   | .builtin .min => match c.args.toList with
     | [x, y] => match db x, db y with
       | some x, some y => some (.nd false x y)
       | _, _ => none
     | _ => none
   | .builtin .max => match c.args.toList with
     | [x, y] => match db x, db y with
       | some x, some y => some (.nd true x y)
       | _, _ => none
     | _ => none
   | .builtin .append => match c.args.toList, c.argTypes.toList with
     | [x, y], [T, bx] => match db x, db y with
       | some x, some y => some (.app T bx x y)
       | _, _ => none
     | _, _ => none
   | _ => none
 | _ => none
def nd (gn : Bool) : I → I → Option I
 | .str a, .str b => some (.str (vI gn a b))
 | _, _ => none
def bH (C : bZ) (s : aj) : eX → Option (I × aj)
 | .ag x => some (aG s x, s)
 | .ai x => match aG s x with
   | .h y q => ct s (.h y q)
   | d => some (d, s)
 | .pick c a b => match aG s c with
   | .bool eO => some (if eO then aG s a else aG s b, s)
   | _ => none
 | .dS T => (dS C T).map fun d => (d, s)
 | .di _ x => di s (aG s x)
 | .eQ T ps => eQ C s T (ps.map fun p => (p.1, aG s p.2))
 | .dN T n ps => dN C s T n (ps.map fun p => (p.1, aG s p.2))
 | .aM T x => (aM C s T (aG s x)).map fun d => (d, s)
 | .cP T x y => (cP C s T (aG s x) (aG s y)).map fun s1 => (.hole, s1)
 | .dz x => (dz s (aG s x)).map fun d => (d, s)
 | .aB op T x y => (aB C s op T (aG s x) (aG s y)).map fun d => (d, s)
 | .un op x => (un op (aG s x)).map fun d => (d, s)
 | .eP A B x => (eP C s A B (aG s x)).map fun d => (d, s)
 | .hd f cs => some (.fn f (cs.map (aG s)), s)
 | .eG T l c => (eG C T (aG s l) (aG s c)).map fun d => (d, s)
 | .ed T x cF ak => ed C s T (aG s x) (cF.map (aG s)) (ak.map (aG s))
 | .bc T x k => (bc C s T (aG s x) k).map fun d => (d, s)
 | .bX T x i => (bX C s T (aG s x) (aG s i)).map fun d => (d, s)
 | .idx T x i => (idx C T (aG s x) (aG s i)).map fun d => (d, s)
 | .ex x k => (ex s (aG s x) k).map fun d => (d, s)
 | .call _ _ => none
 | .len T x => (kl C s T (aG s x)).map fun d => (d, s)
 | .app T bx x y => kn C s T bx (aG s x) (aG s y)
 | .shr _ => none
 | .kI _ _ _ _ => none
 | .kJ _ _ _ => none
 | .j0 _ x => j0 s (aG s x)
 | .lN T bx x y => (lN C T bx (aG s x) (aG s y)).map fun d => (d, s)
 | .cap T x => match (C.T T).k, aG s x with
   | .slice _, .bA => some (.int .i64 0, s)
   | _, _ => none
 | .nd gn x y => (nd gn (aG s x) (aG s y)).map fun d => (d, s)
 | .bad => none
section
variable {C : bZ} {w0 w : World} {F0 X F : Nat → Prop} {S : Nat → Nat → Prop} {s s1 : aj} {a : Act} {av : I}
theorem pI : ∀ {os : List Operand} {xs : List aA}, my os = some xs → os.map db = xs.map some
 | [], xs, h => by simp [my] at h; subst h; rfl
 | o :: os, xs, h => by
   simp only [my] at h
   split at h
   ·rename_i x DM ab af
    simp at h; subst h
    simp [ab, pI af]
   ·cases h
theorem zY {az : Nat → Value} (h : bE w0 F0 X F S s az w) (dC : ∀ t, az t = a.tmps.getD t undef) : ∀ {ps : List (Nat × Operand)} {xs : List (Nat × aA)}, ri ps = some xs →
  lP w F s az (xs.map fun p => (p.1, aG s p.2)) (ps.map fun p => (p.1, a.eval p.2))
 | [], xs, h => by simp [ri] at h; subst h; trivial
 | (k, o) :: ps, xs, bq => by
   simp only [ri] at bq
   split at bq
   ·rename_i x DM ab af
    simp at bq; subst bq
    obtain ⟨aY, bs⟩ := fg h dC ab
    exact ⟨rfl, aY, bs, zY h dC af⟩
   ·cases bq
def Next (C : bZ) (w0 : World) (F0 X : Nat → Prop) (az : Nat → Value) (w : World) (m : Sem Go.Next) (av : I) (s1 : aj) : Prop :=
 ∃ r aD v bI aL, m.run C.P w = .ok r aD ∧ (r = .value v ∨ r = .skip ∧ v = undef) ∧ bE w0 F0 X bI aL s1 az aD ∧ jA w0 X bI aL s1 az aD av v
theorem Good.next {az : Nat → Value} {m : Sem Value} (h : Good C w0 F0 X az w m av s1) : Next C w0 F0 X az w (do pure (.value (← m))) av s1 := by
 obtain ⟨v, aD, bI, aL, ab, af, aF⟩ := h
 exact ⟨.value v, aD, v, bI, aL, by simp [ab], .inl rfl, af, aF⟩
theorem DN {az : Nat → Value} (h : bE w0 F0 X F S s az w) {gn : Bool} {x y : I} {iK h7 : Value} {m : Sem Go.Next} (ab : aH w F s az x iK (fun _ => False)) (af : aH w F s az y h7 (fun _ => False))
  (he : (nd gn x y).map (fun d => (d, s)) = some (av, s1)) (hm : m = (do pure (.value (← if gn then Builtin.max2 iK h7 else Builtin.min2 iK h7)))) : Next C w0 F0 X az w m av s1 := by
 simp only [Option.map_eq_some_iff, Prod.mk.injEq] at he
 obtain ⟨d, ah, rfl, rfl⟩ := he
 unfold nd at ah
 split at ah
 ·rename_i a b
  simp only [Option.some.injEq] at ah; subst ah
  have aJ := m5 ab
  have aP := m5 af
  subst aJ aP
  subst hm
  refine ⟨.value (.string ⟨⟨vI gn a b⟩⟩), w, _, F, S, ?_, .inl rfl, h, .inl ⟨rfl, mq _⟩⟩
  cases gn
  ·simp only [Builtin.min2, Op.stringOp, zA, vI, Bool.false_eq_true, if_false]
   cases U : (Op.bytesLess a b || a == b) <;> simp [asBool]
  ·simp only [Builtin.max2, Op.stringOp, zA, vI, if_true]
   cases U : Op.bytesLess a b <;> simp [asBool]
 ·cases ah
theorem DO (bp : C.Ok) {az : Nat → Value} (h : bE w0 F0 X F S s az w) (dC : ∀ t, az t = a.tmps.getD t undef) {o : Oper} {bu : eX} (aa : cJ o.op = some bu) (he : bH C s bu = some (av, s1)) :
  Next C w0 F0 X az w (execOp a.eval o) av s1 := by
 obtain ⟨dst, op, ty, pos, after, guard⟩ := o
 simp only at aa
 cases op with
 | move x =>
   simp only [cJ, Option.map_eq_some_iff] at aa
   obtain ⟨cx, au, rfl⟩ := aa
   obtain ⟨aY, bs⟩ := fg h dC au
   simp only [bH, Option.some.injEq, Prod.mk.injEq] at he
   obtain ⟨rfl, rfl⟩ := he
   exact ⟨_, w, _, F, S, rfl, .inl rfl, h, .inl ⟨aY, bs⟩⟩
 | assign x =>
   simp only [cJ, Option.map_eq_some_iff] at aa
   obtain ⟨cx, au, rfl⟩ := aa
   obtain ⟨aY, bs⟩ := fg h dC au
   simp only [bH] at he
   split at he
   ·rename_i y q bC
    rw [bC] at aY bs
    obtain ⟨b1, k0, bN, b6, Sn, et, dy, fk, ej, iN, _⟩ := oo h aY bs he
    exact ⟨_, w, _, F, b1, rfl, .inl rfl, k0, .inr ⟨bN, b6, Sn, et, dy, fk, ej, iN⟩⟩
   ·simp only [Option.some.injEq, Prod.mk.injEq] at he
    obtain ⟨rfl, rfl⟩ := he
    exact ⟨_, w, _, F, S, rfl, .inl rfl, h, .inl ⟨aY, bs⟩⟩
 | pick c x y =>
   simp only [cJ] at aa
   split at aa
   ·rename_i tf cx iH al au bC
    simp only [Option.some.injEq] at aa; subst aa
    simp only [bH] at he
    split at he
    ·rename_i b U
     simp only [Option.some.injEq, Prod.mk.injEq] at he
     obtain ⟨rfl, rfl⟩ := he
     have pG := (fg h dC al).2
     rw [U] at pG
     have pG := pz pG
     obtain ⟨ar, aC⟩ := fg h dC au
     obtain ⟨fZ, jF⟩ := fg h dC bC
     refine ⟨.value (if b then a.eval x else a.eval y), w, _, F, S, ?_, .inl rfl, h, .inl ?_⟩
     ·simp [execOp, pG, asBool]
     ·cases b
      ·exact ⟨fZ, jF⟩
      ·exact ⟨ar, aC⟩
    ·cases he
   ·cases aa
 | alloc T =>
   simp only [cJ, Option.some.injEq] at aa; subst aa
   simp only [bH, Option.map_eq_some_iff, Prod.mk.injEq] at he
   obtain ⟨d, ah, rfl, rfl⟩ := he
   exact (JM bp h ah).next
 | box T x =>
   simp only [cJ, Option.map_eq_some_iff] at aa
   obtain ⟨cx, au, rfl⟩ := aa
   obtain ⟨aY, bs⟩ := fg h dC au
   exact (JO h aY bs he).next
 | build T ps =>
   simp only [cJ, Option.map_eq_some_iff] at aa
   obtain ⟨KF, an, rfl⟩ := aa
   obtain ⟨ps⟩ := ps
   have := (Kz bp h (zY h dC an) he).next
   simpa [execOp] using this
 | buildSlice T n ps =>
   simp only [cJ, Option.map_eq_some_iff] at aa
   obtain ⟨KF, an, rfl⟩ := aa
   obtain ⟨ps⟩ := ps
   have := (KC bp h (zY h dC an) he).next
   simpa [execOp] using this
 | load T x =>
   simp only [cJ, Option.map_eq_some_iff] at aa
   obtain ⟨cx, au, rfl⟩ := aa
   obtain ⟨aY, bs⟩ := fg h dC au
   simp only [bH, Option.map_eq_some_iff, Prod.mk.injEq] at he
   obtain ⟨d, ah, rfl, rfl⟩ := he
   exact (JH bp h bs ah).next
 | store T x y =>
   simp only [cJ] at aa
   split at aa
   ·rename_i cx iH au bC
    simp only [Option.some.injEq] at aa; subst aa
    simp only [bH, Option.map_eq_some_iff, Prod.mk.injEq] at he
    obtain ⟨s2, ah, rfl, rfl⟩ := he
    obtain ⟨aD, aL, ab, af⟩ := JK bp h (fg h dC au).2 (fg h dC bC).1 (fg h dC bC).2 ah
    exact ⟨.skip, aD, undef, F, aL, by simp [execOp, ab], .inr ⟨rfl, rfl⟩, af, .inl ⟨rfl, by rw [aH]; trivial⟩⟩
   ·cases aa
 | nilCheck x =>
   simp only [cJ, Option.map_eq_some_iff] at aa
   obtain ⟨cx, au, rfl⟩ := aa
   obtain ⟨aY, bs⟩ := fg h dC au
   simp only [bH, Option.map_eq_some_iff, Prod.mk.injEq] at he
   obtain ⟨d, ah, rfl, rfl⟩ := he
   obtain ⟨rfl, an, aK⟩ := JX h bs ah
   refine ⟨.value (a.eval x), w, _, F, S, ?_, .inl rfl, h, .inl ⟨an, bs⟩⟩
   rcases aK with ⟨b, U⟩ | ⟨f, c, U⟩ <;> simp [execOp, U]
 | binOp op T x y ag6 =>
   simp only [cJ] at aa
   split at aa
   ·rename_i cx iH au bC
    simp only [Option.some.injEq] at aa; subst aa
    simp only [bH, Option.map_eq_some_iff, Prod.mk.injEq] at he
    obtain ⟨d, ah, rfl, rfl⟩ := he
    exact (JS bp h x y (fg h dC au).2 (fg h dC bC).2 ah).next
   ·cases aa
 | unOp op T x =>
   simp only [cJ, Option.map_eq_some_iff] at aa
   obtain ⟨cx, au, rfl⟩ := aa
   simp only [bH, Option.map_eq_some_iff, Prod.mk.injEq] at he
   obtain ⟨d, ah, rfl, rfl⟩ := he
   exact (JV h (fg h dC au).2 ah).next
 | convert A B x =>
   simp only [cJ, Option.map_eq_some_iff] at aa
   obtain ⟨cx, au, rfl⟩ := aa
   simp only [bH, Option.map_eq_some_iff, Prod.mk.injEq] at he
   obtain ⟨d, ah, rfl, rfl⟩ := he
   exact (J5 bp h (fg h dC au).2 ah).next
 | makeFunc fn first cs =>
   cases fn with
   | func f =>
     simp only [cJ] at aa
     split at aa
     ·rename_i zZ
      simp only [Option.map_eq_some_iff] at aa
      obtain ⟨lQ, hr, rfl⟩ := aa
      simp only [bH, Option.some.injEq, Prod.mk.injEq] at he
      obtain ⟨rfl, rfl⟩ := he
      have z1 : first = #[] := by simpa using zZ
      subst z1
      refine ⟨_, w, _, F, S, rfl, .inl rfl, h, .inl ⟨rfl, ?_⟩⟩
      rw [aH]
      refine ⟨cs.map a.eval, by simp, ?_⟩
      simpa using wq h dC _ _ (pI hr)
     ·cases aa
   | _ => simp [cJ] at aa
 | makeSlice T l c =>
   simp only [cJ] at aa
   split at aa
   ·rename_i cx iH au bC
    simp only [Option.some.injEq] at aa; subst aa
    simp only [bH, Option.map_eq_some_iff, Prod.mk.injEq] at he
    obtain ⟨d, ah, rfl, rfl⟩ := he
    exact (Kq bp h (fg h dC au).2 (fg h dC bC).2 ah).next
   ·cases aa
 | slice T x cF ak gn =>
   cases gn with
   | some m => simp [cJ] at aa
   | none =>
     simp only [cJ] at aa
     split at aa
     ·rename_i cx ag7 pJ au lI lJ
      simp only [Option.some.injEq] at aa; subst aa
      obtain ⟨aY, bs⟩ := fg h dC au
      have opt : ∀ {o : Option Operand} {ld : Option aA}, te o = some ld → nJ w F s az (ld.map (aG s)) (o.map a.eval) := by
       intro o ld bU
       cases o with
       | none => simp [te] at bU; subst bU; trivial
       | some o =>
         simp only [te, Option.map_eq_some_iff] at bU
         obtain ⟨x, au, rfl⟩ := bU
         exact (fg h dC au).2
      exact (J8 bp h aY bs (opt lI) (opt lJ) he).next
     ·cases aa
 | fieldAddr T x k =>
   simp only [cJ, Option.map_eq_some_iff] at aa
   obtain ⟨cx, au, rfl⟩ := aa
   obtain ⟨aY, bs⟩ := fg h dC au
   simp only [bH, Option.map_eq_some_iff, Prod.mk.injEq] at he
   obtain ⟨d, ah, rfl, rfl⟩ := he
   exact (JA bp h aY bs ah).next
 | indexAddr T x i =>
   simp only [cJ] at aa
   split at aa
   ·rename_i cx iH au bC
    simp only [Option.some.injEq] at aa; subst aa
    simp only [bH, Option.map_eq_some_iff, Prod.mk.injEq] at he
    obtain ⟨d, ah, rfl, rfl⟩ := he
    exact (JB bp h (fg h dC au).2 (fg h dC bC).2 ah).next
   ·cases aa
 | index T x i =>
   simp only [cJ] at aa
   split at aa
   ·rename_i cx iH au bC
    simp only [Option.some.injEq] at aa; subst aa
    simp only [bH, Option.map_eq_some_iff, Prod.mk.injEq] at he
    obtain ⟨d, ah, rfl, rfl⟩ := he
    exact (J2 bp h (fg h dC au).2 (fg h dC bC).2 ah).next
   ·cases aa
 | extract x k =>
   simp only [cJ, Option.map_eq_some_iff] at aa
   obtain ⟨cx, au, rfl⟩ := aa
   simp only [bH, Option.map_eq_some_iff, Prod.mk.injEq] at he
   obtain ⟨d, ah, rfl, rfl⟩ := he
   exact (J0 h (fg h dC au).2 ah).next
 | call c =>
   obtain ⟨callee, args, argTypes⟩ := c
   simp only [cJ] at aa
   split at aa
   ·split at aa
    ·simp only [Option.some.injEq] at aa; subst aa
     simp [bH] at he
    ·cases aa
   ·split at aa
    ·rename_i x T kK pK
     simp only [Option.map_eq_some_iff] at aa
     obtain ⟨cx, au, rfl⟩ := aa
     simp only [bH, Option.map_eq_some_iff, Prod.mk.injEq] at he
     obtain ⟨d, ah, rfl, rfl⟩ := he
     have := (J3 (ty := ty) bp h (fg h dC au).2 ah).next
     have aJ : args = #[x] := by apply Array.ext'; exact kK
     have aP : argTypes = #[T] := by apply Array.ext'; exact pK
     subst aJ aP
     simpa [execOp, resolve, invoke, builtin] using this
    ·cases aa
   ·split at aa
    ·rename_i x T kK pK
     simp only [Option.map_eq_some_iff] at aa
     obtain ⟨cx, au, rfl⟩ := aa
     simp only [bH] at he
     split at he
     ·rename_i e ay KG
      simp only [Option.some.injEq, Prod.mk.injEq] at he
      obtain ⟨rfl, rfl⟩ := he
      have aK := (fg h dC au).2
      rw [KG] at aK
      have := nH aK
      obtain ⟨i, d, z, aJ, aP, a_, cD, c4, b8, b2⟩ := bp.info (fS ay (by simp))
      rw [ay] at b2
      have ah := jB b2; subst ah
      have KH : args = #[x] := by apply Array.ext'; exact kK
      have KI : argTypes = #[T] := by apply Array.ext'; exact pK
      subst KH KI
      have aO : (Builtin.cap_ #[T] ty #[a.eval x]).run C.P w = .ok (.int .i64 0) w := by
       rw [this]; simp [Builtin.cap_, run_underlying b8, goInt]
      have := (Good.same (av := .int .i64 0) h aO rfl (of_int _ _)).next
      simpa [execOp, resolve, invoke, builtin] using this
     ·cases he
    ·cases aa
   ·split at aa
    ·rename_i x y kK
     split at aa
     ·rename_i cx iH au bC
      simp only [Option.some.injEq] at aa; subst aa
      have aJ : args = #[x, y] := by apply Array.ext'; exact kK
      subst aJ
      exact DN h (fg h dC au).2 (fg h dC bC).2 he (by simp [execOp, resolve, invoke, builtin, Builtin.min_])
     ·cases aa
    ·cases aa
   ·split at aa
    ·rename_i x y kK
     split at aa
     ·rename_i cx iH au bC
      simp only [Option.some.injEq] at aa; subst aa
      have aJ : args = #[x, y] := by apply Array.ext'; exact kK
      subst aJ
      exact DN h (fg h dC au).2 (fg h dC bC).2 he (by simp [execOp, resolve, invoke, builtin, Builtin.max_])
     ·cases aa
    ·cases aa
   ·split at aa
    ·rename_i x y T bx kK pK
     split at aa
     ·rename_i cx iH au bC
      simp only [Option.some.injEq] at aa; subst aa
      have := (Kj (ty := ty) bp h (fg h dC au).2 (fg h dC bC).2 he).next
      have aJ : args = #[x, y] := by apply Array.ext'; exact kK
      have aP : argTypes = #[T, bx] := by apply Array.ext'; exact pK
      subst aJ aP
      simpa [execOp, resolve, invoke, builtin] using this
     ·cases aa
    ·cases aa
   ·cases aa
 | _ => simp [cJ] at aa
end
mutual
def I.aa : I → List Nat
 | .h x _ => [x]
 | .an x _ => [x]
 | .U x _ => [x]
 | .fn _ cap => I.dc cap
 | _ => []
def I.dc : List I → List Nat
 | [] => []
 | d :: ds => d.aa ++ I.dc ds
end
inductive nf where
 | no
 | bW
 | cn
structure fK where
 k : nf
 x : Nat
 d : I
def nf.app (k : nf) (x : Nat) (a : I) : I := match k with
 | .no => a
 | .bW => cB.bW x a
 | .cn => cB.cn x a
def fK.at (m : fK) (u : Nat) (a : I) : I := if u = m.x then m.d else m.k.app m.x a
def im : List fK → Nat → I → I
 | [], _, a => a
 | m :: ms, u, a => im ms u (m.at u a)
def cZ (ms : List fK) (s : aj) : aj := fun u => im ms u (s u)
theorem DP : ∀ (ms jj : List fK) (u : Nat) (a : I), im (ms ++ jj) u a = im jj u (im ms u a)
 | [], _, _, _ => rfl
 | m :: ms, jj, u, a => by simp only [List.cons_append, im]; exact DP ms jj u _
theorem j2 (ms jj : List fK) (s : aj) : cZ (ms ++ jj) s = cZ jj (cZ ms s) := by
 funext u; simp [cZ, DP]
theorem KJ {ms : List fK} {s ao : aj} {u : Nat} (h : ao u = s u) : cZ ms ao u = cZ ms s u := by simp [cZ, h]
theorem tg (s : aj) (x : Nat) (d : I) : cY (hp x s) x d = cZ [⟨.bW, x, d⟩] s := by
 funext u; simp only [cZ, im, fK.at, cY, hp, nf.app]
theorem DQ (s : aj) (x : Nat) (d : I) : cY (ki x s) x d = cZ [⟨.cn, x, d⟩] s := by
 funext u; simp only [cZ, im, fK.at, cY, ki, nf.app]
theorem z2 (s : aj) (x : Nat) (d : I) : cY s x d = cZ [⟨.no, x, d⟩] s := by
 funext u; simp only [cZ, im, fK.at, cY, nf.app]
mutual
theorem th {x : Nat} : ∀ a : I, x ∉ a.aa → bW x a = a
 | .h y q, h => by
   simp only [I.aa, List.mem_singleton] at h
   simp only [bW]; rw [if_neg (fun e => h e.symm)]
 | .an y q, h => by
   simp only [I.aa, List.mem_singleton] at h
   simp only [bW]; rw [if_neg (fun e => h e.symm)]
 | .U y q, h => rfl
 | .fn f cap, h => by simp only [bW]; rw [DR cap (by simpa [I.aa] using h)]
 | .hole, _ => rfl
 | .bool _, _ => rfl
 | .dV, _ => rfl
 | .int _ _, _ => rfl
 | .str _, _ => rfl
 | .c7, _ => rfl
 | .bA, _ => rfl
 | .slice _, _ => rfl
 | .aE _ _, _ => rfl
 | .ref _, _ => rfl
 | .bd _, _ => rfl
 | .agg _, _ => rfl
 | .tuple _, _ => rfl
theorem DR {x : Nat} : ∀ ds : List I, x ∉ I.dc ds → hc x ds = ds
 | [], _ => rfl
 | d :: ds, h => by
   simp only [I.dc, List.mem_append, not_or] at h
   simp only [hc]; rw [th d h.1, DR ds h.2]
end
mutual
theorem z6 {x : Nat} : ∀ a : I, x ∉ a.aa → cn x a = a
 | .h y q, h => by
   simp only [I.aa, List.mem_singleton] at h
   simp only [cn]; rw [if_neg (fun e => h e.symm)]
 | .an y q, h => by
   simp only [I.aa, List.mem_singleton] at h
   simp only [cn]; rw [if_neg (fun e => h e.symm)]
 | .U y q, h => by
   simp only [I.aa, List.mem_singleton] at h
   simp only [cn]; rw [if_neg (fun e => h e.symm)]
 | .fn f cap, h => by simp only [cn]; rw [DS cap (by simpa [I.aa] using h)]
 | .hole, _ => rfl
 | .bool _, _ => rfl
 | .dV, _ => rfl
 | .int _ _, _ => rfl
 | .str _, _ => rfl
 | .c7, _ => rfl
 | .bA, _ => rfl
 | .slice _, _ => rfl
 | .aE _ _, _ => rfl
 | .ref _, _ => rfl
 | .bd _, _ => rfl
 | .agg _, _ => rfl
 | .tuple _, _ => rfl
theorem DS {x : Nat} : ∀ ds : List I, x ∉ I.dc ds → hG x ds = ds
 | [], _ => rfl
 | d :: ds, h => by
   simp only [I.dc, List.mem_append, not_or] at h
   simp only [hG]; rw [z6 d h.1, DS ds h.2]
end
theorem ti {k : nf} {x : Nat} {a : I} (h : k = .no ∨ x ∉ a.aa) : k.app x a = a := by
 cases k with
 | no => rfl
 | bW => exact th a (by simpa using h)
 | cn => exact z6 a (by simpa using h)
mutual
theorem DT (x y : Nat) : ∀ a : I, bW x (bW y a) = bW y (bW x a)
 | .h z q => by simp only [bW]; by_cases ab : z = x <;> by_cases af : z = y <;> by_cases aF : q = [] <;> simp [ab, af, aF, bW] <;> (subst_vars; simp_all [bW])
 | .an z q => by simp only [bW]; by_cases ab : z = x <;> by_cases af : z = y <;> simp [ab, af, bW] <;> (subst_vars; simp_all [bW])
 | .U z q => rfl
 | .fn f cap => by simp only [bW]; rw [DU x y cap]
 | .hole => rfl
 | .bool _ => rfl
 | .dV => rfl
 | .int _ _ => rfl
 | .str _ => rfl
 | .c7 => rfl
 | .bA => rfl
 | .slice _ => rfl
 | .aE _ _ => rfl
 | .ref _ => rfl
 | .bd _ => rfl
 | .agg _ => rfl
 | .tuple _ => rfl
theorem DU (x y : Nat) : ∀ ds : List I, hc x (hc y ds) = hc y (hc x ds)
 | [] => rfl
 | d :: ds => by simp only [hc]; rw [DT x y d, DU x y ds]
end
mutual
theorem DV (x y : Nat) : ∀ a : I, cn x (cn y a) = cn y (cn x a)
 | .h z q => by simp only [cn]; by_cases ab : z = x <;> by_cases af : z = y <;> simp [ab, af, cn] <;> (subst_vars; simp_all [cn])
 | .an z q => by simp only [cn]; by_cases ab : z = x <;> by_cases af : z = y <;> simp [ab, af, cn] <;> (subst_vars; simp_all [cn])
 | .U z q => by simp only [cn]; by_cases ab : z = x <;> by_cases af : z = y <;> simp [ab, af, cn] <;> (subst_vars; simp_all [cn])
 | .fn f cap => by simp only [cn]; rw [DW x y cap]
 | .hole => rfl
 | .bool _ => rfl
 | .dV => rfl
 | .int _ _ => rfl
 | .str _ => rfl
 | .c7 => rfl
 | .bA => rfl
 | .slice _ => rfl
 | .aE _ _ => rfl
 | .ref _ => rfl
 | .bd _ => rfl
 | .agg _ => rfl
 | .tuple _ => rfl
theorem DW (x y : Nat) : ∀ ds : List I, hG x (hG y ds) = hG y (hG x ds)
 | [] => rfl
 | d :: ds => by simp only [hG]; rw [DV x y d, DW x y ds]
end
mutual
theorem z7 (x y : Nat) : ∀ a : I, bW x (cn y a) = cn y (bW x a)
 | .h z q => by simp only [cn, bW]; by_cases ab : z = x <;> by_cases af : z = y <;> by_cases aF : q = [] <;> simp [ab, af, aF, cn, bW] <;> (subst_vars; simp_all [cn, bW])
 | .an z q => by simp only [cn, bW]; by_cases ab : z = x <;> by_cases af : z = y <;> simp [ab, af, cn, bW] <;> (subst_vars; simp_all [cn, bW])
 | .U z q => by simp only [cn, bW]; by_cases af : z = y <;> simp [af, bW]
 | .fn f cap => by simp only [cn, bW]; rw [DX x y cap]
 | .hole => rfl
 | .bool _ => rfl
 | .dV => rfl
 | .int _ _ => rfl
 | .str _ => rfl
 | .c7 => rfl
 | .bA => rfl
 | .slice _ => rfl
 | .aE _ _ => rfl
 | .ref _ => rfl
 | .bd _ => rfl
 | .agg _ => rfl
 | .tuple _ => rfl
theorem DX (x y : Nat) : ∀ ds : List I, hc x (hG y ds) = hG y (hc x ds)
 | [] => rfl
 | d :: ds => by simp only [hG, hc]; rw [z7 x y d, DX x y ds]
end
theorem KK (k l : nf) (x y : Nat) (a : I) : k.app x (l.app y a) = l.app y (k.app x a) := by
 cases k <;> cases l <;> simp only [nf.app] <;> first | rfl | exact DT .. | exact DV .. | exact z7 .. | exact (z7 ..).symm
def aA.use (s : aj) : aA → List Nat
 | .t n => n :: (s n).aa
 | .c av => av.aa
 | .f _ => []
def aA.lR (s : aj) : List aA → List Nat
 | [] => []
 | x :: xs => x.use s ++ aA.lR s xs
def z8 (s : aj) : Option aA → List Nat
 | none => []
 | some x => x.use s
def use (s : aj) : eX → List Nat
 | .ag x => x.use s
 | .ai x => x.use s
 | .pick c a b => c.use s ++ (a.use s ++ b.use s)
 | .dS _ => []
 | .di _ x => x.use s
 | .eQ _ ps => aA.lR s (ps.map (·.2))
 | .dN _ _ ps => aA.lR s (ps.map (·.2))
 | .aM _ x => x.use s
 | .cP _ x y => x.use s ++ y.use s
 | .dz x => x.use s
 | .aB _ _ x y => x.use s ++ y.use s
 | .un _ x => x.use s
 | .eP _ _ x => x.use s
 | .hd _ cs => aA.lR s cs
 | .eG _ l c => l.use s ++ c.use s
 | .ed _ x cF ak => x.use s ++ (z8 s cF ++ z8 s ak)
 | .bc _ x _ => x.use s
 | .bX _ x i => x.use s ++ i.use s
 | .idx _ x i => x.use s ++ i.use s
 | .ex x _ => x.use s
 | .call f args => f.use s ++ aA.lR s args
 | .len _ x => x.use s
 | .app _ _ x y => x.use s ++ y.use s
 | .shr bu => use s bu
 | .kI f args u x => u :: x :: (f.use s ++ aA.lR s args)
 | .kJ f args us => us.flatMap (fun u => u :: (s u).aa) ++ (f.use s ++ aA.lR s args)
 | .j0 _ x => x.use s
 | .lN _ _ x y => x.use s ++ y.use s
 | .cap _ x => x.use s
 | .nd _ x y => x.use s ++ y.use s
 | .bad => []
def c1 (s : aj) : eX → List Nat
 | .ai x => (aG s x).aa
 | .di _ x => (aG s x).aa
 | .eQ _ ps => I.dc (ps.map fun p => aG s p.2)
 | .dN _ _ ps => I.dc (ps.map fun p => aG s p.2)
 | .cP _ x y => (aG s x).aa ++ (aG s y).aa
 | .ed _ x _ _ => (aG s x).aa
 | .app _ _ x y => (aG s x).aa ++ (aG s y).aa
 | .shr bu => c1 s bu
 | _ => []
def dd (bx : List Nat) (ao s : aj) : Prop := ∀ u ∈ bx, ao u = s u
theorem dd.left {bx V : List Nat} {ao s : aj} (h : dd (bx ++ V) ao s) : dd bx ao s := fun u hu => h u (List.mem_append_left _ hu)
theorem dd.right {bx V : List Nat} {ao s : aj} (h : dd (bx ++ V) ao s) : dd V ao s := fun u hu => h u (List.mem_append_right _ hu)
theorem dd.cZ {bx : List Nat} {ao s : aj} (h : dd bx ao s) (ms : List fK) : dd bx (cZ ms ao) (cZ ms s) := fun u hu => KJ (h u hu)
theorem dd.sub {bx V : List Nat} {ao s : aj} (h : dd bx ao s) (aa : ∀ u ∈ V, u ∈ bx) : dd V ao s := fun u hu => h u (aa u hu)
theorem aA.pL {s : aj} {x : aA} : ∀ u ∈ (aG s x).aa, u ∈ x.use s := by
 intro u hu
 cases x with
 | t n =>
   simp only [aG, hU] at hu
   split at hu
   ·simp [aA.use, hu]
   ·simp only [I.aa, List.mem_singleton] at hu; simp [aA.use, hu]
 | c av => exact hu
 | f g => simp [aG, I.aa, I.dc] at hu
theorem aA.fD {s ao : aj} {x : aA} (h : dd (x.use s) ao s) : aG ao x = aG s x := by
 cases x with
 | t n => simp only [aG]; rw [h n (by simp [aA.use])]
 | c av => rfl
 | f g => rfl
theorem dd.aG {s ao : aj} {x : aA} (h : dd (x.use s) ao s) : dd (aG s x).aa ao s := h.sub aA.pL
theorem DY {s ao : aj} {x : Option aA} (h : dd (z8 s x) ao s) : x.map (aG ao) = x.map (aG s) := by
 cases x with
 | none => rfl
 | some x => simp only [Option.map_some]; rw [aA.fD h]
theorem aA.z_ {s ao : aj} : ∀ {xs : List aA}, dd (aA.lR s xs) ao s → xs.map (aG ao) = xs.map (aG s)
 | [], _ => rfl
 | x :: xs, h => by
   simp only [List.map_cons]
   rw [aA.fD (h.left), aA.z_ (h.right)]
theorem aA.Aa {s ao : aj} : ∀ {ps : List (Nat × aA)}, dd (aA.lR s (ps.map (·.2))) ao s → (ps.map fun p => (p.1, aG ao p.2)) = ps.map fun p => (p.1, aG s p.2)
 | [], _ => rfl
 | x :: xs, h => by
   simp only [List.map_cons] at h ⊢
   rw [aA.fD (h.left), aA.Aa (h.right)]
theorem aA.wu {s : aj} : ∀ {xs : List aA}, ∀ u ∈ I.dc (xs.map (aG s)), u ∈ aA.lR s xs
 | [], u, h => by simp [I.dc] at h
 | x :: xs, u, h => by
   simp only [List.map_cons, I.dc, List.mem_append] at h
   simp only [aA.lR, List.mem_append]
   exact h.imp (aA.pL u) (aA.wu u)
section
variable {C : bZ} {s ao : aj} {x y i : I} {T A B : TypeId}
theorem Ab (h : dd x.aa ao s) : loc ao x = loc s x := by
 cases x <;> first
  | rfl
  | (simp only [loc]; rw [h _ (by simp [I.aa])])
theorem Ac {z : Nat} {q : List Nat} (h : loc s x = some (z, q)) : z ∈ x.aa := by
 cases x with
 | h y p =>
   simp only [loc] at h
   split at h
   ·simp only [Option.some.injEq, Prod.mk.injEq] at h; simp [I.aa, h.1]
   ·cases h
 | an y p =>
   simp only [loc] at h
   split at h
   ·simp only [Option.some.injEq, Prod.mk.injEq] at h; simp [I.aa, h.1]
   ·cases h
 | _ => simp [loc] at h
theorem KL (h : dd x.aa ao s) : aM C ao T x = aM C s T x := by
 have hl := Ab h
 unfold aM
 split
 ·rfl
 ·rw [h _ (by simp [I.aa])]
 ·rw [hl]
  split
  ·rename_i e
   rw [h _ (Ac e)]
  ·rfl
theorem KM {k : Nat} (h : dd x.aa ao s) : bc C ao T x k = bc C s T x k := by
 have hl := Ab h
 unfold bc
 split
 ·split
  ·split
   ·split
    ·rfl
    ·rw [h _ (by simp [I.aa])]
    ·rw [hl]
     split
     ·rename_i e
      rw [h _ (Ac e)]
     ·rfl
   ·rfl
  ·rfl
 ·rfl
theorem KN (h : dd x.aa ao s) : bX C ao T x i = bX C s T x i := by
 cases x <;> first
  | rfl
  | (simp only [bX]; rw [h _ (by simp [I.aa])])
theorem KO (h : dd x.aa ao s) : kl C ao T x = kl C s T x := by
 unfold kl
 cases (C.T T).k <;> cases x <;> first
  | rfl
  | (simp only; rw [h _ (by simp [I.aa])])
theorem KP (h : dd x.aa ao s) : eP C ao A B x = eP C s A B x := by
 unfold eP
 cases (C.T B).k <;> cases x <;> first
  | rfl
  | (simp only; rw [h _ (by simp [I.aa])])
theorem KQ (h : dd x.aa ao s) : jC ao x = jC s x := by
 cases x <;> first
  | rfl
  | (simp only [jC]; rw [h _ (by simp [I.aa])])
theorem KR (h : dd x.aa ao s) : jD ao x = jD s x := by
 cases x <;> first
  | rfl
  | (simp only [jD]; rw [h _ (by simp [I.aa])])
theorem KS {op : BinOp} (h : dd x.aa ao s) : aB C ao op T x y = aB C s op T x y := by
 have ab := KQ h
 have af := KR h
 unfold aB
 split <;> first | rfl | simp only [ab, af]
theorem KT (h : dd x.aa ao s) : dz ao x = dz s x := by
 cases x <;> first
  | rfl
  | (simp only [dz]; rw [h _ (by simp [I.aa])])
theorem KU {k : Nat} (h : dd x.aa ao s) : ex ao x k = ex s x k := by
 cases x <;> first
  | rfl
  | (simp only [ex]; rw [h _ (by simp [I.aa])])
theorem tj : ∀ (q : List Nat) (a d e : I), I.sub q a = some d → (d.plain = false ∨ q ≠ []) → (q = [] → e.aa = []) → (I.put q e a).aa = [] := by
 intro q a d e h an he
 cases q with
 | nil => rw [I.put]; exact he rfl
 | cons k q =>
   cases a <;> first
    | (simp [I.sub] at h; done)
    | skip
   all_goals
    unfold I.put
    repeat' split
    all_goals first | rfl | (simp_all; done)
end
def Loc {α : Type} (bx rj : List Nat) (f : aj → Option (α × aj)) (s : aj) (av : α) (s1 : aj) : Prop :=
 ∃ ms, s1 = cZ ms s ∧ (∀ m ∈ ms, m.x ∈ rj ∧ m.d.aa = []) ∧ ∀ ao, dd bx ao s → f ao = some (av, cZ ms ao)
theorem Loc.pure {α : Type} {bx rj : List Nat} {f : aj → Option (α × aj)} {s : aj} {av : α} (h : ∀ ao, dd bx ao s → f ao = some (av, ao)) : Loc bx rj f s av s :=
 ⟨[], rfl, by simp, fun ao aa => h ao aa⟩
theorem Loc.mono {α : Type} {bx rj wv DZ : List Nat} {f : aj → Option (α × aj)} {s s1 : aj} {av : α} (h : Loc bx rj f s av s1) (na : ∀ u ∈ bx, u ∈ wv) (kG : ∀ u ∈ rj, u ∈ DZ) : Loc wv DZ f s av s1 := by
 obtain ⟨ms, ab, af, aF⟩ := h
 exact ⟨ms, ab, fun m hm => ⟨kG _ (af m hm).1, (af m hm).2⟩, fun ao aa => aF ao (aa.sub na)⟩
section
variable {C : bZ} {s s1 : aj} {x y d : I} {T A B : TypeId}
theorem pM (h : ct s x = some (d, s1)) : Loc x.aa x.aa (fun s => ct s x) s d s1 := by
 cases x with
 | h y q =>
   simp only [ct] at h
   split at h
   ·rename_i e he
    split at h
    ·cases h
    ·rename_i an
     simp only [Option.some.injEq, Prod.mk.injEq] at h
     obtain ⟨rfl, rfl⟩ := h
     have an : e.plain = false := by simpa using an
     refine ⟨[⟨.bW, y, I.put q e.cH (s y)⟩], tg _ _ _, ?_, ?_⟩
     ·intro m hm
      simp only [List.mem_singleton] at hm; subst hm
      refine ⟨by simp [I.aa], tj q _ _ _ he (.inl an) fun cC => ?_⟩
      subst cC
      cases e <;> first | (simp [I.plain] at an; done) | rfl
     ·intro ao aa
      have aJ : ao y = s y := aa y (by simp [I.aa])
      simp only [ct, aJ, he, an]
      rw [← tg]; rfl
   ·cases h
 | an y q => simp [ct] at h
 | U y q => simp [ct] at h
 | fn f c => simp [ct] at h
 | hole => simp [ct] at h
 | _ =>
   simp only [ct, Option.some.injEq, Prod.mk.injEq] at h
   obtain ⟨rfl, rfl⟩ := h
   exact .pure fun ao _ => rfl
mutual
theorem D0 (x : Nat) : ∀ a : I, ∀ u ∈ (bW x a).aa, u ∈ a.aa
 | .h y q, u, h => by
   simp only [bW] at h
   split at h
   ·split at h
    ·exact h
    ·simp [I.aa] at h
   ·exact h
 | .an y q, u, h => by
   simp only [bW] at h
   split at h
   ·simp [I.aa] at h
   ·exact h
 | .U y q, u, h => h
 | .fn f cap, u, h => by simp only [bW, I.aa] at h ⊢; exact D1 x cap u h
 | .hole, u, h => h
 | .bool _, u, h => h
 | .dV, u, h => h
 | .int _ _, u, h => h
 | .str _, u, h => h
 | .c7, u, h => h
 | .bA, u, h => h
 | .slice _, u, h => h
 | .aE _ _, u, h => h
 | .ref _, u, h => h
 | .bd _, u, h => h
 | .agg _, u, h => h
 | .tuple _, u, h => h
theorem D1 (x : Nat) : ∀ ds : List I, ∀ u ∈ I.dc (hc x ds), u ∈ I.dc ds
 | [], u, h => h
 | d :: ds, u, h => by
   simp only [hc, I.dc, List.mem_append] at h ⊢
   exact h.imp (D0 x d u) (D1 x ds u)
end
theorem Ad (o : Option Nat) (a : I) : ∀ u ∈ (jf o a).aa, u ∈ a.aa := by
 intro u h
 cases o with
 | none => exact h
 | some x => exact D0 x a u h
theorem D2 : ∀ (os : List (Option Nat)) (a : I), ∀ u ∈ (lO os a).aa, u ∈ a.aa := by
 intro os
 induction os with
 | nil => intro a u h; exact h
 | cons o os ih => intro a u h; exact Ad o a u (ih (jf o a) u h)
theorem D3 {place : Nat → Option (Nat × Nat)} : ∀ {ps : List (Nat × I)} {s s1 : aj} {zs ds : List I} {os : List (Option Nat)}, dI place s zs os ps = some (ds, s1) →
  Loc (I.dc (ps.map (·.2))) (I.dc (ps.map (·.2))) (fun s => dI place s zs os ps) s ds s1 := by
 intro ps
 induction ps with
 | nil =>
   intro s s1 zs ds os h
   simp only [dI, Option.some.injEq, Prod.mk.injEq] at h
   obtain ⟨rfl, rfl⟩ := h
   exact .pure fun ao _ => rfl
 | cons p ps ih =>
   intro s s1 zs ds os h
   obtain ⟨k, a⟩ := p
   simp only [dI] at h
   split at h
   ·rename_i d s2 off n z aZ fj bG
    split at h
    ·cases h
    ·rename_i br kL
     split at h
     ·rename_i al
      obtain ⟨mz, rfl, af, aF⟩ := pM aZ
      obtain ⟨pN, rfl, bV, cd⟩ := ih h
      refine ⟨mz ++ pN, (j2 _ _ _).symm, ?_, ?_⟩
      ·intro m hm
       simp only [List.map_cons, I.dc, List.mem_append] at hm ⊢
       rcases hm with hm | hm
       ·exact ⟨.inl (D2 _ _ _ (af m hm).1), (af m hm).2⟩
       ·exact ⟨.inr (bV m hm).1, (bV m hm).2⟩
      ·intro ao aa
       simp only [List.map_cons, I.dc] at aa
       have aJ := aF ao (aa.left.sub (D2 _ _))
       have aP := cd (cZ mz ao) (aa.right.cZ mz)
       simp only at aJ aP
       simp only [dI, aJ, fj, bG, j2]
       rw [if_pos al]; exact aP
     ·cases h
   ·cases h
theorem KV {ps : List (Nat × I)} {av : I} (h : eQ C s T ps = some (av, s1)) : Loc (I.dc (ps.map (·.2))) (I.dc (ps.map (·.2))) (fun s => eQ C s T ps) s av s1 := by
 unfold eQ at h
 split at h
 ·rename_i aw zs ay bG
  split at h
  ·rename_i al
   split at h
   ·rename_i ds s2 bB
    simp only [Option.some.injEq, Prod.mk.injEq] at h
    obtain ⟨rfl, rfl⟩ := h
    obtain ⟨ms, ab, af, aF⟩ := D3 bB
    refine ⟨ms, ab, af, fun ao aa => ?_⟩
    have := aF ao aa
    simp only at this
    simp only [eQ, ay, bG, if_pos al, this]
   ·cases h
  ·cases h
 ·cases h
theorem KW {n : Nat} {ps : List (Nat × I)} {av : I} (h : dN C s T n ps = some (av, s1)) : Loc (I.dc (ps.map (·.2))) (I.dc (ps.map (·.2))) (fun s => dN C s T n ps) s av s1 := by
 unfold dN at h
 split at h
 ·rename_i e ay
  split at h
  ·rename_i al
   split at h
   ·rename_i ds s2 bB
    simp only [Option.some.injEq, Prod.mk.injEq] at h
    obtain ⟨rfl, rfl⟩ := h
    obtain ⟨ms, ab, af, aF⟩ := D3 bB
    refine ⟨ms, ab, af, fun ao aa => ?_⟩
    have := aF ao aa
    simp only at this
    simp only [dN, ay, if_pos al, this]
   ·cases h
  ·cases h
 ·cases h
theorem KX {av : I} (h : di s x = some (av, s1)) : Loc x.aa x.aa (fun s => di s x) s av s1 := by
 unfold di at h
 split at h
 ·cases h
 ·rename_i d s2 kL aZ
  simp only [Option.some.injEq, Prod.mk.injEq] at h
  obtain ⟨rfl, rfl⟩ := h
  obtain ⟨ms, ab, af, aF⟩ := pM aZ
  refine ⟨ms, ab, af, fun ao aa => ?_⟩
  have := aF ao aa
  simp only at this
  simp only [di, this]
 ·cases h
theorem KY {av : I} (h : j0 s x = some (av, s1)) : Loc x.aa [] (fun s => j0 s x) s av s1 := by
 unfold j0 at h
 split at h
 ·rename_i y q
  split at h
  ·rename_i ds k8
   split at h
   ·cases h
   ·rename_i sX
    simp only [Option.some.injEq, Prod.mk.injEq] at h
    obtain ⟨rfl, rfl⟩ := h
    refine .pure fun ao aa => ?_
    have e : ao y = s y := aa y (by simp [I.aa])
    simp only [j0, e, k8, if_neg sX]
  ·cases h
 ·cases h
theorem KZ {s2 : aj} (h : cP C s T x y = some s2) : Loc (x.aa ++ y.aa) (x.aa ++ y.aa) (fun s => (cP C s T x y).map fun s1 => (I.hole, s1)) s .hole s2 := by
 unfold cP at h
 split at h
 ·rename_i d s1 z q aZ hl
  obtain ⟨ms, ab, af, aF⟩ := pM aZ
  have bG := Ac hl
  have cC : q ≠ [] := by
   cases x with
   | h y p =>
     simp only [loc] at hl
     split at hl
     ·simp only [Option.some.injEq, Prod.mk.injEq] at hl; simp [← hl.2]
     ·cases hl
   | an y p =>
     simp only [loc] at hl
     split at hl
     ·rename_i mn
      simp only [Option.some.injEq, Prod.mk.injEq] at hl
      obtain ⟨rfl, rfl⟩ := hl
      intro e; subst e; simp [I.ez] at mn
     ·cases hl
   | _ => simp [loc] at hl
  split at h
  ·cases h
  ·rename_i br kL
   split at h
   ·rename_i d0 jh
    split at h
    ·rename_i al
     simp only [Option.some.injEq] at h; subst h
     refine ⟨ms ++ [⟨.bW, z, I.put q d (s z)⟩], ?_, ?_, ?_⟩
     ·rw [j2, ← ab, tg]
     ·intro m hm
      simp only [List.mem_append, List.mem_singleton] at hm ⊢
      rcases hm with hm | rfl
      ·exact ⟨.inr (af m hm).1, (af m hm).2⟩
      ·exact ⟨.inl bG, tj q _ _ _ jh (.inr cC) fun e => (cC e).elim⟩
     ·intro ao aa
      have aJ := aF ao aa.right
      simp only at aJ
      simp only [cP, aJ, Ab aa.left, hl, aa.left z bG, jh]
      cases d <;> first | (simp only [if_pos al, Option.map_some, j2, tg]; done) | exact (kL _ rfl).elim
    ·cases h
   ·cases h
 ·cases h
theorem K0 {cF ak : Option I} {av : I} (h : ed C s T x cF ak = some (av, s1)) : Loc x.aa x.aa (fun s => ed C s T x cF ak) s av s1 := by
 cases x with
 | h y q =>
   unfold ed at h
   split at h <;> first | (cases h; done) | skip
   all_goals (rename_i au; try cases au)
   rename_i e ay
   split at h
   ·rename_i sz xs ea
    split at h
    ·rename_i b lI lJ
     split at h
     ·rename_i al
      split at h
      ·rename_i d s2 aZ
       simp only [Option.some.injEq, Prod.mk.injEq] at h
       obtain ⟨rfl, rfl⟩ := h
       obtain ⟨ms, ab, af, aF⟩ := pM aZ
       refine ⟨ms, ab, af, fun ao aa => ?_⟩
       have := aF ao aa
       simp only at this
       have aJ : ao y = s y := aa y (by simp [I.aa])
       simp only [ed, ay, aJ, ea, lI, lJ, if_pos al, this]
      ·cases h
     ·cases h
    ·cases h
   ·cases h
 | _ =>
   have nN : s1 = s := by
    unfold ed at h
    repeat' split at h
    all_goals first | (cases h; done) | (simp only [Option.some.injEq, Prod.mk.injEq] at h; exact h.2.symm) | simp_all
   subst nN
   refine .pure fun ao _ => ?_
   unfold ed at h ⊢
   repeat' split at h
   all_goals first
    | (cases h; done)
    | (simp only [Option.some.injEq, Prod.mk.injEq] at h
       obtain ⟨rfl, _⟩ := h
       simp_all)
def ng (C : bZ) (e : TypeId) (s : aj) : I → Option (I × aj)
 | .bA => some (I.aE (C.T e).sz [], s)
 | .h a q => ct s (.h a q)
 | _ => none
def jG (s1 : aj) : I → Option (List I × aj)
 | .bA => some ([], s1)
 | .slice bT => some (bT, s1)
 | .str l => some (l.map iY, s1)
 | .h a q => match ct s1 (.h a q) with
   | some (.aE _ bT, s2) => some (bT, s2)
   | _ => none
 | _ => none
theorem Ae (C : bZ) (s : aj) (T bx : TypeId) (x y : I) : kn C s T bx x y = (match (C.T T).k with
 | .slice e => if (C.T e).ok = true ∧ (C.T e).zero.wd = (C.T e).sz ∧ (flat (C.T e).zero).isSome = true ∧ wg C e bx = true then
   match ng C e s x with
   | some (.aE sz xs, s1) => if sz = (C.T e).sz then
     match jG s1 (jf x.owner y) with
     | some (bT, s2) => if (∀ d ∈ bT, d.wd = (C.T e).sz) ∧ (xs.length + bT.length) * (C.T e).bytes ≤ 140737488355328 ∧ xs.length + bT.length ≤ 9223372036854775807 then some (.aE sz (xs ++ bT), s2) else none
     | none => none
     else none
   | _ => none
   else none
 | _ => none) := by
 unfold kn
 generalize jf x.owner y = iH
 cases (C.T T).k <;> first
  | rfl
  | (cases x <;> cases iH <;> rfl)
theorem K1 {e : TypeId} {d : I} (ab : ng C e s x = some (d, s1)) : Loc x.aa x.aa (fun s => ng C e s x) s d s1 := by
 cases x with
 | bA =>
   simp only [ng, Option.some.injEq, Prod.mk.injEq] at ab
   obtain ⟨ab, rfl⟩ := ab
   exact .pure fun ao _ => by simp only [ng, ab]
 | h a q => exact pM ab
 | _ => simp [ng] at ab
theorem K2 {bT : List I} (af : jG s y = some (bT, s1)) : Loc y.aa y.aa (fun s => jG s y) s bT s1 := by
 cases y with
 | bA =>
   simp only [jG, Option.some.injEq, Prod.mk.injEq] at af
   obtain ⟨rfl, rfl⟩ := af
   exact .pure fun ao _ => rfl
 | slice bT =>
   simp only [jG, Option.some.injEq, Prod.mk.injEq] at af
   obtain ⟨rfl, rfl⟩ := af
   exact .pure fun ao _ => rfl
 | str l =>
   simp only [jG, Option.some.injEq, Prod.mk.injEq] at af
   obtain ⟨rfl, rfl⟩ := af
   exact .pure fun ao _ => rfl
 | h a q =>
   simp only [jG] at af
   split at af
   ·rename_i Kl ag8 h9 aZ
    simp only [Option.some.injEq, Prod.mk.injEq] at af
    obtain ⟨rfl, rfl⟩ := af
    obtain ⟨ms, aY, bs, b_⟩ := pM aZ
    refine ⟨ms, aY, bs, fun ao aa => ?_⟩
    have := b_ ao aa
    simp only at this
    simp only [jG, this]
   ·cases af
 | _ => simp [jG] at af
theorem K3 {av : I} (h : kn C s T A x y = some (av, s1)) : Loc (x.aa ++ y.aa) (x.aa ++ y.aa) (fun s => kn C s T A x y) s av s1 := by
 rw [Ae] at h
 split at h
 ·rename_i e ay
  split at h
  ·rename_i al
   split at h
   ·rename_i sz xs s2 ab
    split at h
    ·rename_i dB
     split at h
     ·rename_i bT eR af
      split at h
      ·rename_i lG
       simp only [Option.some.injEq, Prod.mk.injEq] at h
       obtain ⟨rfl, rfl⟩ := h
       obtain ⟨mz, rfl, aT, a3⟩ := K1 ab
       obtain ⟨pN, rfl, h8, lb⟩ := (K2 af).mono (Ad _ _) (Ad _ _)
       refine ⟨mz ++ pN, (j2 _ _ _).symm, ?_, ?_⟩
       ·intro m hm
        simp only [List.mem_append] at hm ⊢
        rcases hm with hm | hm
        ·exact ⟨.inl (aT m hm).1, (aT m hm).2⟩
        ·exact ⟨.inr (h8 m hm).1, (h8 m hm).2⟩
       ·intro ao aa
        have aJ := a3 ao aa.left
        have aP := lb (cZ mz ao) (aa.right.cZ mz)
        simp only at aJ aP
        simp only [Ae, ay, if_pos al, aJ, if_pos dB, aP, if_pos lG, j2]
      ·cases h
     ·cases h
    ·cases h
   ·cases h
  ·cases h
 ·cases h
theorem D4 {bu : eX} {av : I} (h : bH C s bu = some (av, s1)) : Loc (use s bu) (c1 s bu) (fun s => bH C s bu) s av s1 := by
 cases bu with
 | shr bu => simp [bH] at h
 | kI f args u x => simp [bH] at h
 | kJ f args L => simp [bH] at h
 | j0 T x =>
   obtain ⟨ms, ab, af, aF⟩ := KY h
   refine ⟨ms, ab, af, fun ao aa => ?_⟩
   simp only [bH, aA.fD (x := x) aa]
   exact aF ao (dd.aG aa)
 | lN T bx x y =>
   simp only [bH, Option.map_eq_some_iff, Prod.mk.injEq] at h
   obtain ⟨d, ah, rfl, rfl⟩ := h
   exact .pure fun ao aa => by
    simp only [use] at aa
    simp only [bH, aA.fD (x := x) aa.left, aA.fD (x := y) aa.right, ah, Option.map_some]
 | bad => simp [bH] at h
 | nd gn x y =>
   simp only [bH, Option.map_eq_some_iff, Prod.mk.injEq] at h
   obtain ⟨d, ah, rfl, rfl⟩ := h
   exact .pure fun ao aa => by
    simp only [use] at aa
    simp only [bH, aA.fD (x := x) aa.left, aA.fD (x := y) aa.right, ah, Option.map_some]
 | cap T x =>
   simp only [bH] at h
   split at h
   ·rename_i e ay au
    simp only [Option.some.injEq, Prod.mk.injEq] at h
    obtain ⟨rfl, rfl⟩ := h
    exact .pure fun ao aa => by simp only [bH, aA.fD (x := x) aa, ay, au]
   ·cases h
 | ag x =>
   simp only [bH, Option.some.injEq, Prod.mk.injEq] at h
   obtain ⟨rfl, rfl⟩ := h
   exact .pure fun ao aa => by simp only [bH, aA.fD (x := x) aa]
 | ai x =>
   simp only [bH] at h
   split at h
   ·rename_i y q au
    obtain ⟨ms, ab, af, aF⟩ := pM h
    refine ⟨ms, ab, by simpa only [c1, au] using af, fun ao aa => ?_⟩
    have e := aA.fD (x := x) aa
    have aP := aF ao (by rw [← au]; exact dd.aG aa)
    simp only [bH, e, au]
    exact aP
   ·rename_i ag9
    simp only [Option.some.injEq, Prod.mk.injEq] at h
    obtain ⟨rfl, rfl⟩ := h
    refine .pure fun ao aa => ?_
    have e := aA.fD (x := x) aa
    simp only [bH, e]
 | pick c a b =>
   simp only [bH] at h
   split at h
   ·rename_i eO U
    simp only [Option.some.injEq, Prod.mk.injEq] at h
    obtain ⟨rfl, rfl⟩ := h
    refine .pure fun ao aa => ?_
    simp only [use] at aa
    simp only [bH, aA.fD (x := c) aa.left, aA.fD (x := a) aa.right.left, aA.fD (x := b) aa.right.right, U]
   ·cases h
 | dS T =>
   simp only [bH, Option.map_eq_some_iff, Prod.mk.injEq] at h
   obtain ⟨d, ah, rfl, rfl⟩ := h
   exact .pure fun ao aa => by simp only [bH, ah, Option.map_some]
 | di T x =>
   obtain ⟨ms, ab, af, aF⟩ := KX h
   refine ⟨ms, ab, af, fun ao aa => ?_⟩
   simp only [bH, aA.fD (x := x) aa]
   exact aF ao (dd.aG aa)
 | eQ T ps =>
   obtain ⟨ms, ab, af, aF⟩ := KV h
   simp only [List.map_map, Function.comp_def] at af aF
   refine ⟨ms, ab, af, fun ao aa => ?_⟩
   simp only [bH, aA.Aa (ps := ps) aa]
   refine aF ao (aa.sub fun u hu => ?_)
   simp only [use]
   exact aA.wu u (by simpa [List.map_map, Function.comp_def] using hu)
 | dN T n ps =>
   obtain ⟨ms, ab, af, aF⟩ := KW h
   simp only [List.map_map, Function.comp_def] at af aF
   refine ⟨ms, ab, af, fun ao aa => ?_⟩
   simp only [bH, aA.Aa (ps := ps) aa]
   refine aF ao (aa.sub fun u hu => ?_)
   simp only [use]
   exact aA.wu u (by simpa [List.map_map, Function.comp_def] using hu)
 | aM T x =>
   simp only [bH, Option.map_eq_some_iff, Prod.mk.injEq] at h
   obtain ⟨d, ah, rfl, rfl⟩ := h
   exact .pure fun ao aa => by simp only [bH, aA.fD (x := x) aa, KL (dd.aG aa), ah, Option.map_some]
 | cP T x y =>
   simp only [bH, Option.map_eq_some_iff, Prod.mk.injEq] at h
   obtain ⟨s2, ah, rfl, rfl⟩ := h
   obtain ⟨ms, ab, af, aF⟩ := KZ ah
   refine ⟨ms, ab, af, fun ao aa => ?_⟩
   simp only [use] at aa
   simp only [bH, aA.fD (x := x) aa.left, aA.fD (x := y) aa.right]
   exact aF ao (aa.sub fun u hu => by simp only [List.mem_append] at hu ⊢; exact hu.imp (aA.pL u) (aA.pL u))
 | dz x =>
   simp only [bH, Option.map_eq_some_iff, Prod.mk.injEq] at h
   obtain ⟨d, ah, rfl, rfl⟩ := h
   exact .pure fun ao aa => by simp only [bH, aA.fD (x := x) aa, KT (dd.aG aa), ah, Option.map_some]
 | aB op T x y =>
   simp only [bH, Option.map_eq_some_iff, Prod.mk.injEq] at h
   obtain ⟨d, ah, rfl, rfl⟩ := h
   refine .pure fun ao aa => ?_
   simp only [use] at aa
   simp only [bH, aA.fD (x := x) aa.left, aA.fD (x := y) aa.right, KS (dd.aG aa.left), ah, Option.map_some]
 | un op x =>
   simp only [bH, Option.map_eq_some_iff, Prod.mk.injEq] at h
   obtain ⟨d, ah, rfl, rfl⟩ := h
   exact .pure fun ao aa => by simp only [bH, aA.fD (x := x) aa, ah, Option.map_some]
 | eP A B x =>
   simp only [bH, Option.map_eq_some_iff, Prod.mk.injEq] at h
   obtain ⟨d, ah, rfl, rfl⟩ := h
   exact .pure fun ao aa => by simp only [bH, aA.fD (x := x) aa, KP (dd.aG aa), ah, Option.map_some]
 | hd f cs =>
   simp only [bH, Option.some.injEq, Prod.mk.injEq] at h
   obtain ⟨rfl, rfl⟩ := h
   exact .pure fun ao aa => by simp only [bH, aA.z_ (xs := cs) aa]
 | eG T l c =>
   simp only [bH, Option.map_eq_some_iff, Prod.mk.injEq] at h
   obtain ⟨d, ah, rfl, rfl⟩ := h
   refine .pure fun ao aa => ?_
   simp only [use] at aa
   simp only [bH, aA.fD (x := l) aa.left, aA.fD (x := c) aa.right, ah, Option.map_some]
 | ed T x cF ak =>
   simp only [bH] at h
   obtain ⟨ms, ab, af, aF⟩ := K0 h
   refine ⟨ms, ab, af, fun ao aa => ?_⟩
   simp only [use] at aa
   simp only [bH, aA.fD (x := x) aa.left, DY aa.right.left, DY aa.right.right]
   exact aF ao (dd.aG aa.left)
 | bc T x k =>
   simp only [bH, Option.map_eq_some_iff, Prod.mk.injEq] at h
   obtain ⟨d, ah, rfl, rfl⟩ := h
   exact .pure fun ao aa => by simp only [bH, aA.fD (x := x) aa, KM (dd.aG aa), ah, Option.map_some]
 | bX T x i =>
   simp only [bH, Option.map_eq_some_iff, Prod.mk.injEq] at h
   obtain ⟨d, ah, rfl, rfl⟩ := h
   refine .pure fun ao aa => ?_
   simp only [use] at aa
   simp only [bH, aA.fD (x := x) aa.left, aA.fD (x := i) aa.right, KN (dd.aG aa.left), ah, Option.map_some]
 | idx T x i =>
   simp only [bH, Option.map_eq_some_iff, Prod.mk.injEq] at h
   obtain ⟨d, ah, rfl, rfl⟩ := h
   refine .pure fun ao aa => ?_
   simp only [use] at aa
   simp only [bH, aA.fD (x := x) aa.left, aA.fD (x := i) aa.right, ah, Option.map_some]
 | ex x k =>
   simp only [bH, Option.map_eq_some_iff, Prod.mk.injEq] at h
   obtain ⟨d, ah, rfl, rfl⟩ := h
   exact .pure fun ao aa => by simp only [bH, aA.fD (x := x) aa, KU (dd.aG aa), ah, Option.map_some]
 | call f args => simp [bH] at h
 | len T x =>
   simp only [bH, Option.map_eq_some_iff, Prod.mk.injEq] at h
   obtain ⟨d, ah, rfl, rfl⟩ := h
   exact .pure fun ao aa => by simp only [bH, aA.fD (x := x) aa, KO (dd.aG aa), ah, Option.map_some]
 | app T bx x y =>
   obtain ⟨ms, ab, af, aF⟩ := K3 h
   refine ⟨ms, ab, af, fun ao aa => ?_⟩
   simp only [use] at aa
   simp only [bH, aA.fD (x := x) aa.left, aA.fD (x := y) aa.right]
   exact aF ao (aa.sub fun u hu => by simp only [List.mem_append] at hu ⊢; exact hu.imp (aA.pL u) (aA.pL u))
end
def I.one : I → Bool
 | .agg _ => false
 | .tuple _ => false
 | _ => true
mutual
def view (s : aj) : I → Option I
 | .h x q => match I.sub q (s x) with
   | some d => (match d with | .tuple _ => none | d => if d.plain then none else some d.share)
   | none => none
 | .an x q => if I.ez q (s x) then (match I.sub q (s x) with
   | some d => (match d with | .tuple _ => none | d => some (.ref d.share))
   | none => none) else none
 | .U _ _ => none
 | .fn f cap => (views s cap).map (.fn f)
 | .hole => none
 | d => some d
def views (s : aj) : List I → Option (List I)
 | [] => some []
 | d :: ds => match view s d, views s ds with
   | some a, some b => some (a :: b)
   | _, _ => none
end
mutual
theorem Af : ∀ d : I, d.share.plain = true
 | .hole => rfl
 | .bool _ => rfl
 | .dV => rfl
 | .int _ _ => rfl
 | .str _ => rfl
 | .c7 => rfl
 | .bA => rfl
 | .slice _ => rfl
 | .aE _ _ => rfl
 | .ref _ => rfl
 | .bd _ => rfl
 | .agg aw => by simp only [I.share, I.plain]; exact Ag aw
 | .tuple aw => by simp only [I.share, I.plain]; exact Ag aw
 | .fn _ _ => rfl
 | .h _ _ => rfl
 | .an _ _ => rfl
 | .U _ _ => rfl
theorem Ag : ∀ ds : List I, I.e2 (I.shares ds) = true
 | [] => rfl
 | d :: ds => by simp only [I.shares, I.e2]; rw [Af d, Ag ds]; rfl
end
theorem K4 {s : aj} {a d : I} (h : a.plain = true) (he : view s a = some d) : d.plain = true := by
 cases a with
 | h x q =>
   simp only [view] at he
   split at he
   ·rename_i e ea
    cases e <;> simp only at he <;> first
     | (cases he; done)
     | (split at he
        ·cases he
        ·simp only [Option.some.injEq] at he
         subst he; exact Af _)
   ·cases he
 | an x q =>
   simp only [view] at he
   split at he
   ·split at he
    ·rename_i e ea
     cases e <;> simp only at he <;> first
      | (cases he; done)
      | (simp only [Option.some.injEq] at he; subst he; rfl)
    ·cases he
   ·cases he
 | fn f cap =>
   simp only [view, Option.map_eq_some_iff] at he
   obtain ⟨ds, _, rfl⟩ := he
   rfl
 | hole => simp [view] at he
 | U y q => simp [view] at he
 | _ => simp only [view, Option.some.injEq] at he; subst he; exact h
theorem Ah {d : I} {v : Value} (ab : ∀ vs, d ≠ .tuple vs) (h : du d v) : du d.share v := by
 cases d <;> first | exact h | exact (ab _ rfl).elim
theorem K5 (w : World) : ∀ (q : List Nat) (av d br : I) (cs cw : List Value) (a cl : Option (Nat × Nat)), I.sub q av = some d → br.wd = d.wd → cU w q av cs a = some (d, cw, cl) →
  cU w q (I.put q br av) cs a = some (br, cw, cl) := by
 intro q
 induction q with
 | nil =>
   intro av d br cs cw a cl ah hw h
   simp only [cU, Option.some.injEq, Prod.mk.injEq] at h
   obtain ⟨rfl, rfl, rfl⟩ := h
   simp only [I.put, cU]
 | cons k q ih =>
   intro av d br cs cw a cl ah hw h
   cases av with
   | agg aw =>
     simp only [I.sub] at ah
     split at ah
     ·rename_i x au
      have ay : k < aw.length := (List.getElem?_eq_some_iff.1 au).1
      simp only [cU, au] at h
      simp only [I.put, au, cU]
      rw [List.getElem?_set_self ay]
      simp only [List.take_set_of_le (Nat.le_refl k), I.qZ q x d br ah hw]
      exact ih _ _ _ _ _ _ _ ah hw h
     ·cases ah
   | tuple aw =>
     simp only [I.sub] at ah
     split at ah
     ·rename_i x au
      have ay : k < aw.length := (List.getElem?_eq_some_iff.1 au).1
      simp only [cU, au] at h
      simp only [I.put, au, cU]
      rw [List.getElem?_set_self ay]
      simp only [List.take_set_of_le (Nat.le_refl k), I.qZ q x d br ah hw]
      exact ih _ _ _ _ _ _ _ ah hw h
     ·cases ah
   | aE sz aw =>
     simp only [I.sub] at ah
     split at ah
     ·rename_i x au
      have ay : k < aw.length := (List.getElem?_eq_some_iff.1 au).1
      have iO : (aw.set k (I.put q br x))[k]? = some (I.put q br x) := List.getElem?_set_self ay
      simp only [I.put, au]
      rw [cU.eq_def] at h ⊢
      simp only [au] at h
      simp only
      rw [iO]
      split at h
      ·rename_i aJ
       simp only [Option.some.injEq] at aJ; subst aJ
       exact ih _ _ _ _ _ _ _ ah hw h
      ·cases h
     ·cases ah
   | bd x =>
     cases k with
     | zero =>
       simp only [I.sub] at ah
       rw [cU.eq_def] at h ⊢
       simp only at h
       simp only [I.put]
       split at h
       ·rw [I.qZ q x d br ah hw]
        exact ih _ _ _ _ _ _ _ ah hw h
       ·cases h
     | succ k => simp [I.sub] at ah
   | _ => simp [I.sub] at ah
section
variable {w0 w aD : World} {F0 X F Fc : Nat → Prop} {S : Nat → Nat → Prop} {s ao : aj} {az gS : Nat → Value}
theorem K6 (h : bE w0 F0 X F S s az w) (bo : ∀ b, F b → Fc b) : ∀ n,
  (∀ (a : I) (v : Value) (d : I), SizeOf.sizeOf a ≤ n → (∀ t ∈ a.aa, ∀ b, S t b → Fc b) → view s a = some d → aH w F s az a v (fun _ => False) → aH w Fc ao gS d v (fun _ => False)) ∧
  (∀ (as : List I) (vs : List Value) (ds : List I), SizeOf.sizeOf as ≤ n → (∀ t ∈ I.dc as, ∀ b, S t b → Fc b) → views s as = some ds → dE w F s az as vs → dE w Fc ao gS ds vs) := by
 intro n
 induction n with
 | zero => exact ⟨fun a _ _ bG => by cases a <;> simp at bG <;> omega, fun as _ _ bG => by cases as <;> simp at bG <;> omega⟩
 | succ n ih =>
   refine ⟨fun a v d bG bL he aK => ?_, fun as vs ds bG bL he aK => ?_⟩
   ·cases a with
    | h x q =>
      simp only [view] at he
      split at he
      ·rename_i e ea
       have key : (∀ aw, e ≠ .tuple aw) ∧ e.plain = false ∧ d = e.share := by
        cases e <;> simp only at he <;> first
         | (cases he; done)
         | (split at he
            ·cases he
            ·rename_i fj
             simp only [Option.some.injEq] at he
             exact ⟨(fun _ h => by cases h), by simpa using fj, he.symm⟩)
       obtain ⟨kL, fj, rfl⟩ := key
       rw [aH] at aK
       obtain ⟨cw, cl, aY, bs, b_⟩ := aK e ea fj
       have aZ := hb ea (.inl fj)
       have au := (aH.cv aZ).1 (h.da x)
       obtain ⟨fe, aT, dH, fW, k0, bN, b6, et, dy, fk⟩ := ctx q (s x) (cm (az x)) (S x) none e au.2 ea
       rw [aY] at k0
       simp only [Option.some.injEq, Prod.mk.injEq, true_and] at k0
       obtain ⟨rfl, rfl⟩ := k0
       have zr : e.share.tree = true := by cases e <;> first | rfl | (simp [I.plain] at fj)
       have aO := ax.shared bo e cw fW (fun b U => bL x (by simp [I.aa]) b (b6 b U)) dy
       exact (aH.cv zr).2 ⟨Ah kL b_, by rw [bs]; exact aO⟩
      ·cases he
    | an x q =>
      simp only [view] at he
      split at he
      ·rename_i mn
       split at he
       ·rename_i e ea
        have key : (∀ aw, e ≠ .tuple aw) ∧ d = .ref e.share := by
         cases e <;> simp only at he <;> first
          | (cases he; done)
          | (simp only [Option.some.injEq] at he; exact ⟨(fun _ h => by cases h), he.symm⟩)
        obtain ⟨kL, rfl⟩ := key
        rw [aH] at aK
        obtain ⟨cw, b, o, aY, rfl⟩ := aK e ea mn
        have aZ := hb ea (.inr mn)
        have au := (aH.cv aZ).1 (h.da x)
        obtain ⟨fe, aT, dH, fW, k0, bN, b6, et, dy, fk⟩ := ctx q (s x) (cm (az x)) (S x) none e au.2 ea
        rw [aY] at k0
        simp only [Option.some.injEq, Prod.mk.injEq, true_and] at k0
        obtain ⟨rfl, rfl⟩ := k0
        have aO := ax.shared bo e cw fW (fun b U => bL x (by simp [I.aa]) b (b6 b U)) dy
        rcases fk with ⟨l, r, _, aP, _⟩ | ⟨eO, cur, ty, fr, l, r, aJ, aP, a_, cD, c4, _⟩
        ·simp at aP
        ·simp only [Option.some.injEq, Prod.mk.injEq] at aJ
         obtain ⟨rfl, rfl⟩ := aJ
         refine (aH.cv rfl).2 ⟨rfl, ?_⟩
         rw [ax]
         refine ⟨b, l.length, cw, rfl, bL x (by simp [I.aa]) b (bN b aP), ?_, aO⟩
         intro j c bS
         simp only [World.cell?, a_]
         have al : cur[l.length + j]? = some c := by
          rw [← Array.getElem?_toList, c4, List.getElem?_append_right (by omega), List.getElem?_append_left (by
           have := (List.getElem?_eq_some_iff.1 bS).1; omega)]
          rw [← bS]; congr 1; omega
         simpa using al
       ·cases he
      ·cases he
    | fn f cap =>
      simp only [view, Option.map_eq_some_iff] at he
      obtain ⟨ds, hV, rfl⟩ := he
      rw [aH] at aK
      obtain ⟨arr, rfl, al⟩ := aK
      rw [aH]
      exact ⟨arr, rfl, ih.2 cap _ _ (by simp at bG; omega) (by simpa [I.aa] using bL) hV al⟩
    | hole => simp [view] at he
    | U y q => simp [view] at he
    | _ =>
      simp only [view, Option.some.injEq] at he; subst he
      have kj := (aH.cv rfl).1 aK
      exact (aH.cv rfl).2 ⟨kj.1, ax.mono bo _ _ _ _ (fun _ h => h) kj.2⟩
   ·cases as with
    | nil =>
      simp only [views, Option.some.injEq] at he; subst he
      rw [dE] at aK ⊢; exact aK
    | cons a as =>
      simp only [views] at he
      split at he
      ·rename_i d ds ab af
       simp only [Option.some.injEq] at he; subst he
       rw [dE] at aK ⊢
       obtain ⟨v, iW, rfl, aY, bs⟩ := aK
       simp at bG
       simp only [I.dc, List.mem_append] at bL
       exact ⟨v, iW, rfl, ih.1 a v d (by omega) (fun t aZ => bL t (.inl aZ)) ab aY, ih.2 as iW ds (by omega) (fun t aZ => bL t (.inr aZ)) af bs⟩
      ·cases he
theorem bE.hI (h : bE w0 F0 X F S s az w) {x : Nat} {q : List Nat} {d0 br : I} {cw : List Value} {a : Option (Nat × Nat)} {Sn : Nat → Prop}
  (ah : I.sub q (s x) = some d0) (bB : cU w q (s x) (cm (az x)) none = some (d0, cw, a)) (af : ∀ vs, br ≠ .tuple vs) (aZ : q = [] → br.tree = true ∧ du br (az x))
  (aF : ∀ k p, q = k :: p → (s x).tree = true ∧ (∀ v, ha d0 v → ha br v)) (hw : br.wd = d0.wd)
  (aK : ax w F br cw Sn) (dQ : ∀ b, Sn b → b < w.heap.size) (bo : ∀ b, Sn b → ¬ F b) (bL : ∀ u b, Sn b → ¬ S u b) (bh : ∀ b, Sn b → X b ∨ w0.heap.size ≤ b) :
  bE w0 F0 X F (fi S x (fun b => S x b ∨ Sn b)) (cY (ki x s) x (I.put q br (s x))) az w := by
 have dC : cY az x (az x) = az := by funext u; simp only [cY]; split <;> simp_all
 have main : (I.put q br (s x)).tree = true ∧ du (I.put q br (s x)) (az x) ∧ ax w F (I.put q br (s x)) (cm (az x)) (fun b => S x b ∨ Sn b) := by
  cases q with
  | nil =>
    simp only [cU, Option.some.injEq, Prod.mk.injEq] at bB
    obtain ⟨aJ, aP, a_⟩ := bB
    obtain ⟨aY, bs⟩ := aZ rfl
    simp only [I.put]
    refine ⟨aY, ?_, ?_⟩
    ·exact bs
    ·rw [aP]; exact ax.mono (fun _ h => h) _ _ _ _ (fun b U => .inr U) aK
  | cons k p =>
    obtain ⟨aY, bs⟩ := aF k p rfl
    have au := (aH.cv aY).1 (h.da x)
    obtain ⟨fe, aT, dH, fW, k0, bN, b6, et, dy, fk⟩ := ctx (k :: p) (s x) (cm (az x)) (S x) none d0 au.2 ah
    rw [bB] at k0
    simp only [Option.some.injEq, Prod.mk.injEq, true_and] at k0
    obtain ⟨rfl, rfl⟩ := k0
    refine ⟨?_, ?_, ?_⟩
    ·rcases po k p br (s x) with ⟨aw, gs, aJ, e⟩ | ⟨aw, gs, aJ, e⟩ | ⟨sz, xs, bT, aJ, e⟩ | ⟨y, z, aJ, e⟩ | e <;> rw [e] <;> first | rfl | exact aY
    ·refine zk au.1 ah bs (fun _ vs e => (af vs e).elim) hw
    ·have mono : ∀ b, (dH b ∨ Sn b) → (S x b ∨ Sn b) := fun b U => U.imp (bN b) id
     rcases fk with ⟨l, r, aJ, aP, a_⟩ | ⟨b, cur, ty, fr, l, r, aJ, aP, a_, cD, c4, b8⟩
     ·rw [aJ]
      exact ax.mono (fun _ h => h) _ _ _ _ mono (a_ w br cw Sn (fun _ _ => rfl) (fun _ _ => rfl) hw aK (fun b U al => bL x b U (bN b al)))
     ·refine ax.mono (fun _ h => h) _ _ _ _ mono (b8 w br cw Sn (fun _ _ => rfl) (fun _ _ _ => rfl) ?_ hw aK (fun b U al => bL x b U (bN b al)))
      rw [a_, ← c4]
 have := h.CW (t := x) main.1 main.2.1 main.2.2 (by rintro b (U | U); exact h.dM x b U; exact dQ b U) (by rintro b (U | U); exact h.ff x b U; exact bo b U)
  (by rintro u b cV (U | U); exact fun hu => h.eU u x b cV hu U; exact bL u b U) (by rintro b (U | U); exact h.dh x b U; exact bh b U)
 rwa [dC] at this
end
mutual
def I.c8 : I → Bool
 | .slice _ => false
 | .ref _ => false
 | .fn _ _ => false
 | .h _ _ => false
 | .an _ _ => false
 | .U _ _ => false
 | .aE _ xs => I.h_ xs
 | .bd d => d.c8
 | .agg aw => I.h_ aw
 | .tuple aw => I.h_ aw
 | _ => true
def I.h_ : List I → Bool
 | [] => true
 | d :: ds => d.c8 && I.h_ ds
end
mutual
theorem ax.c8 {w : World} {F bI : Nat → Prop} : ∀ (d : I) (cs : List Value) (S : Nat → Prop), d.c8 = true → ax w F d cs S → ax w bI d cs S
 | .hole, _, _, _, h => h
 | .bool _, _, _, _, h => h
 | .dV, _, _, _, h => h
 | .int _ _, _, _, _, h => h
 | .str _, _, _, _, h => h
 | .c7, _, _, _, h => h
 | .bA, _, _, _, h => h
 | .slice xs, cs, S, bl, h => by simp [I.c8] at bl
 | .ref d, cs, S, bl, h => by simp [I.c8] at bl
 | .aE sz xs, cs, S, bl, h => by
   rw [ax] at h ⊢
   rcases h with h | ⟨b, cap, cur, e, fr, aL, ab, af, aF, bb, bV, cd, cf, er, g1, gp, jd⟩
   ·exact .inl h
   ·exact .inr ⟨b, cap, cur, e, fr, aL, ab, af, aF, bb, bV, cd, cf, er, a6.c8 xs _ _ bl g1, gp, jd⟩
 | .bd d, cs, S, bl, h => by
   rw [ax] at h ⊢
   obtain ⟨b, cur, e, fr, aL, ab, af, aF, bb, bV, cd, cf⟩ := h
   exact ⟨b, cur, e, fr, aL, ab, af, aF, bb, ax.c8 d _ _ bl bV, cd, cf⟩
 | .agg aw, cs, S, bl, h => by rw [ax] at h ⊢; exact a6.c8 aw _ _ bl h
 | .tuple aw, cs, S, bl, h => by rw [ax] at h ⊢; exact a6.c8 aw _ _ bl h
 | .fn _ _, _, _, _, h => h
 | .h _ _, _, _, _, h => h
 | .an _ _, _, _, _, h => h
 | .U _ _, _, _, _, h => h
theorem a6.c8 {w : World} {F bI : Nat → Prop} : ∀ (ds : List I) (cs : List Value) (S : Nat → Prop), I.h_ ds = true → a6 w F ds cs S → a6 w bI ds cs S
 | [], _, _, _, h => h
 | d :: ds, cs, S, bl, h => by
   simp only [I.h_, Bool.and_eq_true] at bl
   rw [a6] at h ⊢
   obtain ⟨cr, cu, b1, dg, ab, af, aF, bb, bV, cd⟩ := h
   exact ⟨cr, cu, b1, dg, ab, ax.c8 d _ _ bl.1 af, a6.c8 ds _ _ bl.2 aF, bb, bV, cd⟩
end
theorem D5 : ∀ (q : List Nat) (av d e : I), I.sub q av = some d → I.sub q (I.put q e av) = some e := by
 intro q
 induction q with
 | nil => intro av d e _; simp [I.put, I.sub]
 | cons k q ih =>
   intro av d e h
   cases av with
   | agg aw =>
     simp only [I.sub] at h
     split at h
     ·rename_i x au
      have ay : k < aw.length := (List.getElem?_eq_some_iff.1 au).1
      simp only [I.put, au, I.sub, List.getElem?_set_self ay]
      exact ih _ _ _ h
     ·cases h
   | tuple aw =>
     simp only [I.sub] at h
     split at h
     ·rename_i x au
      have ay : k < aw.length := (List.getElem?_eq_some_iff.1 au).1
      simp only [I.put, au, I.sub, List.getElem?_set_self ay]
      exact ih _ _ _ h
     ·cases h
   | aE sz aw =>
     simp only [I.sub] at h
     split at h
     ·rename_i x au
      have ay : k < aw.length := (List.getElem?_eq_some_iff.1 au).1
      simp only [I.put, au, I.sub, List.getElem?_set_self ay]
      exact ih _ _ _ h
     ·cases h
   | bd x =>
     cases k with
     | zero => simp only [I.sub] at h; simp only [I.put, I.sub]; exact ih _ _ _ h
     | succ k => simp [I.sub] at h
   | _ => simp [I.sub] at h
structure cj where
 a : I
 g : Bool
 d : I
 o : I
def I.own : I → Bool
 | .aE _ _ => true
 | .bd _ => true
 | _ => false
def I.fq : I → Bool
 | .aE _ _ => true
 | .bd _ => true
 | .agg aw => !I.e2 aw
 | _ => false
def pO (d o : I) : Bool := match d, o with
 | .agg a, .agg b => I.dp a == I.dp b
 | .agg _, _ => false
 | _, .agg _ => false
 | _, _ => true
theorem oz {d : I} (h : d.fq = true) : d.plain = false ∧ d.tree = true ∧ ∀ vs, d ≠ .tuple vs := by
 cases d <;> simp [I.fq] at h <;> first | exact ⟨rfl, rfl, fun vs e => by cases e⟩ | exact ⟨by simp only [I.plain]; exact h, rfl, fun vs e => by cases e⟩
theorem K7 {d o : I} (h : d.fq = true) (bU : o.fq = true) (hl : pO d o = true) : o.wd = d.wd ∧ (∀ v, du d v → du o v) ∧ ∀ v, ha d.cH v → ha o v := by
 cases d <;> simp [I.fq] at h <;> cases o <;> simp [I.fq] at bU <;> simp [pO] at hl <;> first
  | exact ⟨rfl, fun _ h => h, fun _ h => h⟩
  | exact ⟨by simp only [I.wd]; exact hl.symm, fun _ h => h, fun _ h => h⟩
def cj.ok (s : aj) (p : cj) : Prop :=
 if p.g then (match p.a with | .h x q => I.sub q (s x) = some p.d ∧ p.d.fq = true ∧ (p.o = .hole ∨ (p.o.fq = true ∧ pO p.d p.o = true)) | _ => False)
 else view s p.a = some p.d
def hg : List cj → Bool
 | [] => true
 | p :: r => (r.all fun b9 => !(p.g || b9.g) || (p.a.aa.all fun u => !b9.a.aa.contains u)) && hg r
def cj.take (s : aj) (p : cj) : aj :=
 if p.g then (match p.a with | .h x q => cY (hp x s) x (I.put q p.d.cH (s x)) | _ => s) else s
def cj.hI (s : aj) (p : cj) : aj :=
 if p.g then (match p.a, p.o with | _, .hole => s | .h x q, o => cY (ki x s) x (I.put q o (s x)) | _, _ => s) else s
def eu (s : aj) (ps : List cj) : aj := ps.foldl cj.take s
def g2 (s : aj) (ps : List cj) : aj := ps.foldl cj.hI s
section
variable {w0 w aD : World} {F0 X F Fc : Nat → Prop} {S : Nat → Nat → Prop} {s ao : aj} {az gS : Nat → Value}
def K8 (w : World) (F : Nat → Prop) (s1 : aj) (az : Nat → Value) (p : cj) (v : Value) (Sn : Nat → Prop) : Prop :=
 ∃ x q a0, p.a = .h x q ∧ I.sub q (s1 x) = some p.d.cH ∧ cU w q (s1 x) (cm (az x)) none = some (p.d.cH, cm v, a0) ∧ (s1 x).aa = [] ∧ (q = [] → du p.d (az x)) ∧ (q ≠ [] → (s1 x).tree = true) ∧
   du p.d v ∧ ax w F p.d (cm v) Sn
theorem K9 {p : cj} {x : Nat} (h : (s x).aa = []) (an : p.g = true → x ∉ p.a.aa) : cj.take s p x = s x := by
 unfold cj.take
 split
 ·rename_i bO
  cases b7 : p.a with
  | h y q =>
    have : x ≠ y := by
     have := an bO
     rw [b7] at this
     simpa [I.aa] using this
    simp only
    rw [h4 _ _ this]
    exact th _ (by rw [h]; simp)
  | _ => rfl
 ·rfl
theorem Ai : ∀ {ps : List cj} {s : aj} {x : Nat}, (s x).aa = [] → (∀ p ∈ ps, p.g = true → x ∉ p.a.aa) → eu s ps x = s x := by
 intro ps
 induction ps with
 | nil => intros; rfl
 | cons p ps ih =>
   intro s x h an
   have e := K9 (s := s) (p := p) h (an p (by simp))
   show eu (cj.take s p) ps x = s x
   rw [ih (by rw [e]; exact h) (fun b9 dA => an b9 (by simp [dA])), e]
theorem nO {d : I} (h : d.own = true) : d.plain = false ∧ d.tree = true ∧ d.cH = .hole ∧ d.one = true ∧ d.wd = 1 ∧ (∀ v, du d v ↔ Value.fN v = true) := by
 cases d <;> simp [I.own] at h <;> exact ⟨rfl, rfl, rfl, rfl, rfl, fun v => Iff.rfl⟩
theorem K_ : ∀ (ps : List cj) (vs : List Value) (s : aj) (S : Nat → Nat → Prop), bE w0 F0 X F S s az w → ps.length = vs.length →
  (∀ (i : Nat) (p : cj) (v : Value), ps[i]? = some p → vs[i]? = some v → p.a.plain = true ∧ aH w F s az p.a v (fun _ => False) ∧ (p.g = true → p.ok s)) → hg ps = true →
  ∃ (Sn b1 : Nat → Nat → Prop), bE w0 F0 X F b1 (eu s ps) az w ∧ (∀ u b, b1 u b → S u b) ∧
    (∀ (i : Nat) (p : cj) (v : Value), ps[i]? = some p → vs[i]? = some v → p.g = true → K8 w F (eu s ps) az p v (Sn i)) ∧
    (∀ i b, Sn i b → ∃ p, ps[i]? = some p ∧ p.g = true) ∧
    (∀ i b, Sn i b → ∃ u, S u b) ∧ (∀ i u b, Sn i b → ¬ b1 u b) ∧ (∀ i j b, i ≠ j → Sn i b → ¬ Sn j b) ∧
    (∀ (br : I) (fp : Value) (aL : Nat → Prop), (∀ p ∈ ps, p.g = true → ∀ u ∈ p.a.aa, u ∉ br.aa) → aH w F s az br fp aL → aH w F (eu s ps) az br fp aL) := by
 intro ps
 induction ps with
 | nil =>
   intro vs s S h hl _ _
   exact ⟨fun _ _ => False, S, h, fun _ _ h => h, fun i p v an => by simp at an, fun _ _ h => h.elim, fun _ _ h => h.elim, fun _ _ _ h => h.elim, fun _ _ _ _ h => h.elim, fun _ _ _ _ h => h⟩
 | cons p ps ih =>
   intro vs s S h hl tb ji
   cases vs with
   | nil => simp at hl
   | cons v vs =>
     simp only [List.length_cons, Nat.add_right_cancel_iff] at hl
     simp only [hg, Bool.and_eq_true, List.all_eq_true, Bool.or_eq_true, Bool.not_eq_true'] at ji
     obtain ⟨mA, lS⟩ := ji
     have rk : ∀ b9 ∈ ps, (p.g = true ∨ b9.g = true) → ∀ u ∈ p.a.aa, u ∉ b9.a.aa := by
      intro b9 dA bO u hu
      rcases mA b9 dA with e | e
      ·rcases bO with bO | bO <;> simp [bO] at e
      ·simpa using e u hu
     obtain ⟨f1, f2, f3⟩ := tb 0 p v rfl rfl
     cases bO : p.g with
     | false =>
       have fC : cj.take s p = s := by simp [cj.take, bO]
       obtain ⟨Sn, b1, aY, bs, b_, dq, ey, gT, ht, jY⟩ := ih vs s S h hl (fun i b9 fp an aK => tb (i + 1) b9 fp (by simpa using an) (by simpa using aK)) lS
       have aJ : eu s (p :: ps) = eu s ps := by show eu (cj.take s p) ps = _; rw [fC]
       rw [aJ]
       refine ⟨fun i => match i with | 0 => fun _ => False | i + 1 => Sn i, b1, aY, bs, ?_, ?_, ?_, ?_, ?_, fun br fp aL ah => jY br fp aL fun b9 dA => ah b9 (by simp [dA])⟩
       ·intro i b9 fp an aK gu
        cases i with
        | zero => simp at an; subst an; rw [bO] at gu; cases gu
        | succ i => exact b_ i b9 fp (by simpa using an) (by simpa using aK) gu
       ·intro i b U
        cases i with
        | zero => exact U.elim
        | succ i => simpa using dq i b U
       ·intro i b U
        cases i with
        | zero => exact U.elim
        | succ i => exact ey i b U
       ·intro i u b U
        cases i with
        | zero => exact U.elim
        | succ i => exact gT i u b U
       ·intro i j b cV ak bS
        cases i with
        | zero => exact ak.elim
        | succ i =>
          cases j with
          | zero => exact bS.elim
          | succ j => exact ht i j b (by omega) ak bS
     | true =>
       have fs := f3 bO
       simp only [cj.ok, bO, if_true] at fs
       split at fs
       ·rename_i x q b7
        obtain ⟨ea, tk, sV⟩ := fs
        obtain ⟨lf, jk, mB⟩ := oz tk
        have La : ct s p.a = some (p.d, cY (hp x s) x (I.put q p.d.cH (s x))) := by
         rw [b7]; simp only [ct, ea, lf]; rfl
        obtain ⟨b1, t1, t2, t3, Lb, t4, t5, t6, t7, t8, t9, t10, t11⟩ := oo h f1 f2 La
        have fC : cj.take s p = cY (hp x s) x (I.put q p.d.cH (s x)) := by simp [cj.take, bO, b7]
        have mC : ∀ b9 ∈ ps, x ∉ b9.a.aa := fun b9 dA => rk b9 dA (.inl bO) x (by rw [b7]; simp [I.aa])
        have Aj : cj.take s p x = I.put q p.d.cH (s x) := by rw [fC, kF]
        have wx : (cj.take s p x).aa = [] := by
         rw [Aj]; exact tj q _ _ _ ea (.inl lf) (fun _ => by cases ah : p.d <;> first | rfl | (rw [ah] at tk; simp [I.fq] at tk))
        obtain ⟨Sn, dg, aY, bs, b_, dq, ey, gT, ht, jY⟩ := ih vs (cj.take s p) b1 (by rw [fC]; exact t1) hl (by
         intro i b9 fp an aK
         obtain ⟨bN, b6, et⟩ := tb (i + 1) b9 fp (by simpa using an) (by simpa using aK)
         have hm : b9 ∈ ps := List.mem_of_getElem? an
         refine ⟨bN, ?_, ?_⟩
         ·have := t11 _ _ _ b6
          rw [b7] at this
          rw [fC]
          simp only [I.owner, jf] at this
          rwa [th _ (mC b9 hm)] at this
         ·intro gu
          have := et gu
          simp only [cj.ok, gu, if_true] at this ⊢
          split at this
          ·rename_i y hT pP
           have cV : y ≠ x := fun e => mC b9 hm (by rw [pP, e]; simp [I.aa])
           rw [fC, h4 _ _ cV]
           have aZ := hb this.1 (.inl (oz this.2.1).1)
           simp only [hp, zi aZ]
           exact this
          ·exact this.elim) lS
        have aJ : eu s (p :: ps) = eu (cj.take s p) ps := rfl
        have oA : eu (cj.take s p) ps x = I.put q p.d.cH (s x) := by
         rw [Ai wx (fun b9 dA _ => mC b9 dA), Aj]
        rw [aJ]
        refine ⟨fun i => match i with | 0 => Lb | i + 1 => Sn i, dg, aY, fun u b U => t9 u b (bs u b U), ?_, ?_, ?_, ?_, ?_, ?_⟩
        rotate_left 5
        ·intro br fp aL ah hJ
         refine jY br fp aL (fun b9 dA => ah b9 (by simp [dA])) ?_
         have := t11 _ _ _ hJ
         rw [b7] at this
         rw [fC]
         simp only [I.owner, jf] at this
         rwa [th _ (ah p (by simp) bO x (by rw [b7]; simp [I.aa]))] at this
        ·intro i b9 fp an aK gu
         cases i with
         | zero =>
           simp at an aK; subst an aK
           have wy := f2
           rw [b7, aH] at wy
           obtain ⟨cw, a0, cr, cu, nP⟩ := wy _ ea lf
           refine ⟨x, q, a0, b7, ?_, ?_, ?_, ?_, ?_, t3, t4⟩
           ·rw [oA]; exact D5 q _ _ _ ea
           ·rw [oA, cu]; exact K5 w q _ _ _ _ _ _ _ ea (I.oi _) cr
           ·rw [oA, ← Aj]; exact wx
           ·intro cC; subst cC
            simp only [I.sub, Option.some.injEq] at ea
            have := (aH.cv (by rw [ea]; exact jk)).1 (h.da x)
            rw [ea] at this
            exact this.1
           ·intro cC
            have aZ := hb ea (.inl lf)
            rw [oA]
            cases q with
            | nil => exact (cC rfl).elim
            | cons k q => rcases po k q p.d.cH (s x) with ⟨aw, gs, aJ, e⟩ | ⟨aw, gs, aJ, e⟩ | ⟨sz, xs, bT, aJ, e⟩ | ⟨y, z, aJ, e⟩ | e <;> rw [e] <;> first | rfl | exact aZ
         | succ i => exact b_ i b9 fp (by simpa using an) (by simpa using aK) gu
        ·intro i b U
         cases i with
         | zero => exact ⟨p, rfl, bO⟩
         | succ i => simpa using dq i b U
        ·intro i b U
         cases i with
         | zero => exact t10 b U
         | succ i => obtain ⟨u, hu⟩ := ey i b U; exact ⟨u, t9 u b hu⟩
        ·intro i u b U
         cases i with
         | zero => exact fun hu => t7 u b U (bs u b hu)
         | succ i => exact gT i u b U
        ·intro i j b cV ak bS
         cases i with
         | zero =>
           cases j with
           | zero => exact cV rfl
           | succ j => obtain ⟨u, hu⟩ := ey j b bS; exact t7 u b ak hu
         | succ i =>
           cases j with
           | zero => obtain ⟨u, hu⟩ := ey i b ak; exact t7 u b bS hu
           | succ j => exact ht i j b (by omega) ak bS
       ·exact fs.elim
end
def e3 (l : List I) : aj := fun i => l.getD i .hole
def gv (l : List Value) : Nat → Value := fun i => l.getD i undef
def lT (P : Program) (f : FuncId) (args : Array Value) (w : World) (ee : Value → World → Prop) : Prop :=
 ((callFunc f args).run P w = .ok (.enter f args) w ∧ Calls P f args w (fun e aD => ∃ v, e = .returned v ∧ ee v aD)) ∨
 ∃ v aD, (callFunc f args).run P w = .ok (.value v) aD ∧ ee v aD
theorem lT.mono {P : Program} {f : FuncId} {args : Array Value} {w : World} {ee D6 : Value → World → Prop} (h : lT P f args w ee) (aO : ∀ v aD, ee v aD → D6 v aD) : lT P f args w D6 := by
 rcases h with ⟨ab, af⟩ | ⟨v, aD, ab, af⟩
 ·exact .inl ⟨ab, Calls.mono af fun e aD ⟨v, e, h⟩ => ⟨v, e, aO v aD h⟩⟩
 ·exact .inr ⟨v, aD, ab, aO v aD af⟩
def aU (C : bZ) (f : FuncId) (as : List I) (r : I) (outs : List I) : Prop :=
 ∀ (w : World) (F X : Nat → Prop) (S : Nat → Nat → Prop) (vs : List Value), vs.length = as.length → bE w F X F S (e3 as) (gv vs) w →
   lT C.P f vs.toArray w fun v aD => ∃ bI aL, bE w F X bI aL (e3 (r :: outs)) (gv (v :: vs)) aD
def I.res : I → Bool
 | .h _ _ => false
 | .an _ _ => false
 | .U _ _ => false
 | .fn _ _ => false
 | _ => true
theorem Ak {d : I} (h : d.tree = true) : d.aa = [] := by cases d <;> first | rfl | (simp [I.tree] at h)
mutual
theorem Al {s ao : aj} : ∀ (a : I) (d : I), (∀ u ∈ a.aa, (s u).tree = true → ao u = s u) → view s a = some d → view ao a = some d
 | .h x q, d, hu, h => by
   have aZ : (s x).tree = true := by
    simp only [view] at h
    split at h
    ·rename_i e ea
     cases e <;> simp only at h <;> first
      | (cases h; done)
      | (split at h
         ·cases h
         ·rename_i an
          exact hb ea (.inl (by simpa using an)))
    ·cases h
   simp only [view] at h ⊢
   rw [hu x (by simp [I.aa]) aZ]; exact h
 | .an x q, d, hu, h => by
   have aZ : (s x).tree = true := by
    simp only [view] at h
    split at h
    ·rename_i al
     split at h
     ·rename_i e ea; exact hb ea (.inr al)
     ·cases h
    ·cases h
   simp only [view] at h ⊢
   rw [hu x (by simp [I.aa]) aZ]; exact h
 | .U x q, d, hu, h => by simp [view] at h
 | .fn f cap, d, hu, h => by
   simp only [view, Option.map_eq_some_iff] at h ⊢
   obtain ⟨ds, ab, af⟩ := h
   exact ⟨ds, D7 cap ds (by simpa [I.aa] using hu) ab, af⟩
 | .hole, d, hu, h => h
 | .bool _, d, hu, h => h
 | .dV, d, hu, h => h
 | .int _ _, d, hu, h => h
 | .str _, d, hu, h => h
 | .c7, d, hu, h => h
 | .bA, d, hu, h => h
 | .slice _, d, hu, h => h
 | .aE _ _, d, hu, h => h
 | .ref _, d, hu, h => h
 | .bd _, d, hu, h => h
 | .agg _, d, hu, h => h
 | .tuple _, d, hu, h => h
theorem D7 {s ao : aj} : ∀ (as : List I) (ds : List I), (∀ u ∈ I.dc as, (s u).tree = true → ao u = s u) → views s as = some ds → views ao as = some ds
 | [], ds, hu, h => h
 | a :: as, ds, hu, h => by
   simp only [I.dc, List.mem_append] at hu
   simp only [views] at h ⊢
   split at h
   ·rename_i x y ab af
    rw [Al a x (fun u hm => hu u (.inl hm)) ab, D7 as y (fun u hm => hu u (.inr hm)) af]; exact h
   ·cases h
end
section
variable {C : bZ} {w0 w aD : World} {F0 X F Fc : Nat → Prop} {S : Nat → Nat → Prop} {s ao : aj} {az gS : Nat → Value}
def Lc (w : World) (F : Nat → Prop) (s : aj) (az : Nat → Value) (p : cj) (v : Value) (So : Nat → Prop) : Prop :=
 p.g = true → p.o = .hole ∨ ∃ x q a0 d0, p.a = .h x q ∧ I.sub q (s x) = some d0 ∧ cU w q (s x) (cm (az x)) none = some (d0, cm v, a0) ∧ (s x).aa = [] ∧
  (q = [] → du p.o (az x)) ∧ (q ≠ [] → (s x).tree = true) ∧ p.o.fq = true ∧ ax w F p.o (cm v) So ∧ p.o.wd = d0.wd ∧ ∀ v, ha d0 v → ha p.o v
theorem Ld : ∀ (ps : List cj) (vs : List Value) (s : aj) (S So : Nat → Nat → Prop), bE w0 F0 X F S s az w → ps.length = vs.length →
  (∀ (i : Nat) (p : cj) (v : Value), ps[i]? = some p → vs[i]? = some v → Lc w F s az p v (So i)) →
  (∀ i b, So i b → b < w.heap.size ∧ ¬ F b ∧ (X b ∨ w0.heap.size ≤ b) ∧ ∀ u, ¬ S u b) → (∀ i j b, i ≠ j → So i b → ¬ So j b) → hg ps = true →
  ∃ dg, bE w0 F0 X F dg (g2 s ps) az w ∧ ∀ u b, dg u b → S u b ∨ ∃ i, So i b := by
 intro ps
 induction ps with
 | nil => intro vs s S So h _ _ _ _ _; exact ⟨S, h, fun u b U => .inl U⟩
 | cons p ps ih =>
   intro vs s S So h hl Am U ah ji
   cases vs with
   | nil => simp at hl
   | cons v vs =>
     simp only [List.length_cons, Nat.add_right_cancel_iff] at hl
     simp only [hg, Bool.and_eq_true, List.all_eq_true, Bool.or_eq_true, Bool.not_eq_true'] at ji
     obtain ⟨mA, lS⟩ := ji
     have rk : ∀ b9 ∈ ps, (p.g = true ∨ b9.g = true) → ∀ u ∈ p.a.aa, u ∉ b9.a.aa := by
      intro b9 dA bO u hu
      rcases mA b9 dA with e | e
      ·rcases bO with bO | bO <;> simp [bO] at e
      ·simpa using e u hu
     have skip : cj.hI s p = s → ∃ dg, bE w0 F0 X F dg (g2 s (p :: ps)) az w ∧ ∀ u b, dg u b → S u b ∨ ∃ i, So i b := by
      intro fC
      obtain ⟨dg, aY, bs⟩ := ih vs s S (fun i => So (i + 1)) h hl (fun i b9 fp an aK => Am (i + 1) b9 fp (by simpa using an) (by simpa using aK)) (fun i b h => U (i + 1) b h)
       (fun i j b cV => ah (i + 1) (j + 1) b (by omega)) lS
      refine ⟨dg, ?_, fun u b hu => (bs u b hu).imp id fun ⟨i, ak⟩ => ⟨i + 1, ak⟩⟩
      show bE _ _ _ _ _ (g2 (cj.hI s p) ps) _ _
      rw [fC]; exact aY
     cases bO : p.g with
     | false => exact skip (by simp [cj.hI, bO])
     | true =>
       rcases Am 0 p v rfl rfl bO with bU | ⟨x, q, a0, d0, b7, cr, cu, nP, m4, tl, An, Ao, Le, Lf⟩
       ·exact skip (by simp only [cj.hI, bO, bU, if_true])
       ·obtain ⟨lf, jk, oB⟩ := oz An
        have fC : cj.hI s p = cY (ki x s) x (I.put q p.o (s x)) := by
         simp only [cj.hI, bO, if_true, b7]
         cases Lg : p.o <;> first | rfl | (rw [Lg] at An; simp [I.fq] at An)
        have step := h.hI (x := x) (q := q) (br := p.o) cr cu oB (fun cC => ⟨jk, m4 cC⟩) (fun k r cC => ⟨tl (by rw [cC]; simp), Lf⟩) Le Ao
         (fun b h => (U 0 b h).1) (fun b h => (U 0 b h).2.1) (fun u b h => (U 0 b h).2.2.2 u) (fun b h => (U 0 b h).2.2.1)
        rw [← fC] at step
        obtain ⟨dg, aY, bs⟩ := ih vs (cj.hI s p) _ (fun i => So (i + 1)) step hl (by
         intro i b9 fp an aK gu
         have hm : b9 ∈ ps := List.mem_of_getElem? an
         rcases Am (i + 1) b9 fp (by simpa using an) (by simpa using aK) gu with bU | ⟨y, hT, ad, d1, bN, b6, et, dy, fk, ej, iN, eB, km⟩
         ·exact .inl bU
         ·have cV : y ≠ x := fun e => rk b9 hm (.inl bO) x (by rw [b7]; simp [I.aa]) (by rw [bN, e]; simp [I.aa])
          have k8 : cj.hI s p y = s y := by
           rw [fC, h4 _ _ cV]
           exact z6 _ (by rw [dy]; simp)
          exact .inr ⟨y, hT, ad, d1, bN, by rw [k8]; exact b6, by rw [k8]; exact et, by rw [k8]; exact dy, fk, by rw [k8]; exact ej, iN, eB, km⟩)
         (by
          intro i b ak
          obtain ⟨kH, h8, lb, bY⟩ := U (i + 1) b ak
          refine ⟨kH, h8, lb, fun u hu => ?_⟩
          simp only [fi] at hu
          split at hu
          ·rcases hu with hu | hu
           ·exact bY _ hu
           ·exact ah 0 (i + 1) b (by omega) hu ak
          ·exact bY _ hu)
         (fun i j b cV => ah (i + 1) (j + 1) b (by omega)) lS
        refine ⟨dg, aY, fun u b hu => ?_⟩
        rcases bs u b hu with hu | ⟨i, ak⟩
        ·simp only [fi] at hu
         split at hu
         ·rename_i e; subst e
          exact hu.imp id fun h => ⟨0, h⟩
         ·exact .inl hu
        ·exact .inr ⟨i + 1, ak⟩
def i1 (ps : List cj) : Bool := ps.any fun p => !p.g && !p.a.aa.isEmpty
theorem D8 (h : bE w0 F0 X F S s az w) {ps : List cj} {vs : List Value} {f : FuncId} {r : I} (hl : ps.length = vs.length)
  (hJ : ∀ (i : Nat) (p : cj) (v : Value), ps[i]? = some p → vs[i]? = some v → p.a.plain = true ∧ aH w F s az p.a v (fun _ => False))
  (fs : ∀ p ∈ ps, p.ok s) (ji : hg ps = true) (bB : ∀ (Fc kp : Nat → Prop) (dH : Nat → Nat → Prop), (∀ b, F b → Fc b) → (∀ b, kp b → ∃ u, S u b) → bE w Fc kp Fc dH (e3 (ps.map (·.d))) (gv vs) w →
   lT C.P f vs.toArray w fun v aD => ∃ bI aL, bE w Fc kp bI aL (e3 (r :: ps.map (·.o))) (gv (v :: vs)) aD) (aO : r.res = true)
  (bl : i1 ps = true → r.c8 = true ∧ ∀ p ∈ ps, p.o.c8 = true) :
  lT C.P f vs.toArray w fun v aD => ∃ bI aL, bE w0 F0 X bI aL (g2 (eu s ps) ps) az aD ∧ jA w0 X bI aL (g2 (eu s ps) ps) az aD r v ∧ ∀ b, F b → bI b ∧ aD.heap[b]? = w.heap[b]? := by
 obtain ⟨Sn, b1, aY, bs, b_, dq, ey, gT, ht, jY⟩ := K_ ps vs s S h hl (fun i p v an aK => ⟨(hJ i p v an aK).1, (hJ i p v an aK).2, fun _ => fs p (List.mem_of_getElem? an)⟩) ji
 have apart : ∀ (i j : Nat) (p b9 : cj), ps[i]? = some p → ps[j]? = some b9 → i ≠ j → (p.g = true ∨ b9.g = true) → ∀ u ∈ p.a.aa, u ∉ b9.a.aa := by
  clear hJ fs bB bl aY b_ dq jY hl
  induction ps with
  | nil => intro i j p b9 an; simp at an
  | cons gQ ps ih =>
    simp only [hg, Bool.and_eq_true, List.all_eq_true, Bool.or_eq_true, Bool.not_eq_true'] at ji
    obtain ⟨mA, lS⟩ := ji
    have rk : ∀ b9 ∈ ps, (gQ.g = true ∨ b9.g = true) → ∀ u ∈ gQ.a.aa, u ∉ b9.a.aa := by
     intro b9 dA bO u hu
     rcases mA b9 dA with e | e
     ·rcases bO with bO | bO <;> simp [bO] at e
     ·simpa using e u hu
    intro i j p b9 an dA cV bO u hu
    cases i with
    | zero =>
      simp at an; subst an
      cases j with
      | zero => exact (cV rfl).elim
      | succ j => exact rk b9 (List.mem_of_getElem? (by simpa using dA)) bO u hu
    | succ i =>
      cases j with
      | zero =>
        simp at dA; subst dA
        exact fun tm => rk p (List.mem_of_getElem? (by simpa using an)) bO.symm u tm hu
      | succ j => exact ih lS i j p b9 (by simpa using an) (by simpa using dA) (by omega) bO u hu
 let Fc : Nat → Prop := fun b => F b ∨ (i1 ps = true ∧ ∃ u, b1 u b)
 let kp : Nat → Prop := fun b => ∃ i, Sn i b
 have Ap : ∀ b, F b → ¬ kp b := fun b bo ⟨i, ak⟩ => by obtain ⟨u, hu⟩ := ey i b ak; exact h.ff u b hu bo
 have tn : ∀ u b, b1 u b → ¬ kp b := fun u b hu ⟨i, ak⟩ => gT i u b ak hu
 have wz : ∀ b, kp b → (X b ∨ w0.heap.size ≤ b) ∧ b < w.heap.size := fun b ⟨i, ak⟩ => by obtain ⟨u, hu⟩ := ey i b ak; exact ⟨h.dh u b hu, h.dM u b hu⟩
 have pre : bE w Fc kp Fc Sn (e3 (ps.map (·.d))) (gv vs) w := by
  refine ⟨fun _ h => h, fun _ h => .inl h, ?_, fun i b ak => (wz b ⟨i, ak⟩).2, ?_, fun i j b cV => ht i j b cV, fun i b ak => .inl ⟨i, ak⟩, ?_, fun _ _ _ => rfl, Nat.le_refl _, rfl, rfl, rfl⟩
  ·rintro b (U | ⟨_, u, hu⟩)
   ·exact h.eT b U
   ·exact aY.dM u b hu
  ·rintro i b ak (U | ⟨_, u, hu⟩)
   ·exact Ap b U ⟨i, ak⟩
   ·exact gT i u b ak hu
  ·intro t
   cases an : ps[t]? with
   | none =>
     have : e3 (ps.map (·.d)) t = .hole := by simp [e3, List.getD, an]
     rw [this, aH]; trivial
   | some p =>
     have dQ : t < vs.length := by rw [← hl]; exact (List.getElem?_eq_some_iff.1 an).1
     have aK : vs[t]? = some vs[t] := List.getElem?_eq_getElem dQ
     have aJ : e3 (ps.map (·.d)) t = p.d := by simp [e3, List.getD, an]
     have aP : gv vs t = vs[t] := by simp [gv, List.getD, aK]
     rw [aJ, aP]
     have hm : p ∈ ps := List.mem_of_getElem? an
     have ay := fs p hm
     cases bO : p.g with
     | true =>
       obtain ⟨x, q, a0, bN, b6, et, dy, fk, ej, iN, eB⟩ := b_ t p _ an aK bO
       simp only [cj.ok, bO, if_true, bN] at ay
       exact (aH.cv (oz ay.2.1).2.1).2 ⟨iN, ax.mono (fun b U => .inl U) _ _ _ _ (fun _ h => h) eB⟩
     | false =>
       simp only [cj.ok, bO] at ay
       obtain ⟨f1, f2⟩ := hJ t p _ an aK
       have D9 : ∀ b9 ∈ ps, b9.g = true → ∀ u ∈ b9.a.aa, u ∉ p.a.aa := by
        intro b9 dA gu u hu
        obtain ⟨j, bS⟩ := List.getElem?_of_mem dA
        refine apart j t b9 p bS an (fun e => ?_) (.inl gu) u hu
        subst e; rw [an] at bS; simp only [Option.some.injEq] at bS; rw [bS, gu] at bO; cases bO
       have wy := jY _ _ _ D9 f2
       have iO : view (eu s ps) p.a = some p.d := Al _ _ (fun u hu aZ => Ai (Ak aZ) (fun b9 dA gu tm => D9 b9 dA gu u tm hu)) (by simpa using ay)
       refine aH.nothing (K4 f1 iO) ((K6 aY (Fc := Fc) (fun b U => .inl U) (SizeOf.sizeOf p.a)).1 p.a _ p.d (Nat.le_refl _) ?_ iO wy)
       intro u hu b U
       refine .inr ⟨?_, u, U⟩
       simp only [i1, List.any_eq_true]
       refine ⟨p, hm, ?_⟩
       cases jz : p.a.aa with
       | nil => rw [jz] at hu; cases hu
       | cons _ _ => simp [bO]
 refine lT.mono (bB Fc kp Sn (fun b U => .inl U) (fun b ⟨i, ak⟩ => ey i b ak) pre) ?_
 rintro v aD ⟨bI, aL, al⟩
 have keep : ∀ b, b < w.heap.size → ¬ kp b → aD.heap[b]? = w.heap[b]? := al.old
 let mD : Nat → Prop := fun b => if i1 ps = true then F b else bI b
 have D_ : ∀ b, F b → bI b := fun b U => al.gk b (.inl U)
 have rl : ∀ b, F b → mD b := fun b U => by
  simp only [mD]; split
  ·exact U
  ·exact D_ b U
 have pQ : ∀ b, mD b → bI b := fun b U => by
  simp only [mD] at U; split at U
  ·exact D_ b U
  ·exact U
 have Ea : ∀ b, mD b → F b ∨ kp b ∨ w.heap.size ≤ b := fun b U => by
  simp only [mD] at U; split at U
  ·exact .inl U
  ·rename_i oy
   rcases al.gC b U with (U | ⟨ab, _⟩) | U | U
   ·exact .inl U
   ·exact (oy ab).elim
   ·exact .inr (.inl U)
   ·exact .inr (.inr U)
 have mid : bE w0 F0 X mD b1 (eu s ps) az aD := by
  refine ⟨fun b U => rl b (aY.gk b U), ?_, fun b U => al.eT b (pQ b U), fun t b U => Nat.lt_of_lt_of_le (aY.dM t b U) al.size, ?_, aY.eU, aY.dh, ?_, ?_, Nat.le_trans aY.size al.size, al.os.trans aY.os, al.tape.trans aY.tape, al.output.trans aY.output⟩
  ·intro b U
   rcases Ea b U with U | U | U
   ·exact aY.gC b U
   ·rcases (wz b U).1 with h | h
    ·exact .inr (.inl h)
    ·exact .inr (.inr h)
   ·exact .inr (.inr (Nat.le_trans aY.size U))
  ·intro t b aZ U
   rcases Ea b U with U | U | U
   ·exact aY.ff t b aZ U
   ·exact tn t b aZ U
   ·exact absurd (aY.dM t b aZ) (by omega)
  ·intro t
   exact aH.frame (Sx := b1) (fun b U => keep b (h.eT b U) (Ap b U)) rl (fun x b U => keep b (aY.dM x b U) (tn x b U)) aY.da _ _ _ (fun b U => keep b (aY.dM t b U) (tn t b U)) (aY.da t)
  ·intro b U iX
   refine (keep b (Nat.lt_of_lt_of_le U aY.size) fun au => ?_).trans (aY.old b U iX)
   rcases (wz b au).1 with h | h
   ·exact iX h
   ·omega
 have Eb : ∀ (d : I) (cs : List Value) (dh : Nat → Prop), (i1 ps = true → d.c8 = true) → ax aD bI d cs dh → ax aD mD d cs dh := by
  intro d cs dh zQ gU
  by_cases hle : i1 ps = true
  ·exact ax.c8 d cs dh (zQ hle) gU
  ·exact ax.mono (fun b U => by simp only [mD]; rw [if_neg hle]; exact U) _ _ _ _ (fun _ h => h) gU
 have bound : ∀ i b, aL i b → b < aD.heap.size ∧ ¬ mD b ∧ (X b ∨ w0.heap.size ≤ b) ∧ ∀ u, ¬ b1 u b := by
  intro i b U
  refine ⟨al.dM i b U, fun bo => al.ff i b U (pQ b bo), ?_, fun u hu => ?_⟩
  ·rcases al.dh i b U with au | au
   ·exact (wz b au).1
   ·exact .inr (Nat.le_trans aY.size au)
  ·rcases al.dh i b U with au | au
   ·exact tn u b hu au
   ·exact absurd (aY.dM u b hu) (by omega)
 obtain ⟨dg, bN, b6⟩ := Ld ps vs (eu s ps) b1 (fun i => aL (i + 1)) mid hl (by
  intro i p fp an aK bO
  have hm : p ∈ ps := List.mem_of_getElem? an
  have ay := fs p hm
  obtain ⟨x, q, a0, aJ, aP, a_, cD, c4, b8, b2, jg⟩ := b_ i p fp an aK bO
  simp only [cj.ok, bO, if_true, aJ] at ay
  rcases ay.2.2 with bU | bU
  ·exact .inl bU
  ·obtain ⟨gE, l2, tp⟩ := K7 ay.2.1 bU.1 bU.2
   refine .inr ⟨x, q, a0, p.d.cH, aJ, aP, ?_, cD, fun cC => l2 _ (c4 cC), b8, bU.1, ?_, gE.trans (I.oi _).symm, tp⟩
   ·cases q with
    | nil => simpa only [cU] using a_
    | cons k q =>
      have aZ := b8 (by simp)
      rw [zf (k :: q) _ _ (b1 x) none _ ((aH.cv aZ).1 (aY.da x)).2 aP (fun b U => keep b (aY.dM x b U) (tn x b U))]
      exact a_
   ·have := al.da (i + 1)
    have k_ : e3 (r :: ps.map (·.o)) (i + 1) = p.o := by simp [e3, List.getD, an]
    have nI : gv (v :: vs) (i + 1) = fp := by simp [gv, List.getD, aK]
    rw [k_, nI] at this
    exact Eb _ _ _ (fun hle => (bl hle).2 p hm) ((aH.cv (oz bU.1).2.1).1 this).2)
  (fun i b U => bound (i + 1) b U) (fun i j b cV => al.eU (i + 1) (j + 1) b (by omega)) ji
 refine ⟨mD, dg, bN, ?_, fun b U => ⟨rl b U, keep b (h.eT b U) (Ap b U)⟩⟩
 have bh := al.da 0
 have k_ : e3 (r :: ps.map (·.o)) 0 = r := rfl
 have nI : gv (v :: vs) 0 = v := rfl
 rw [k_, nI] at bh
 cases aZ : r.tree with
 | false =>
   cases r <;> first
    | (simp [I.tree] at aZ; done)
    | (simp [I.res] at aO; done)
    | exact .inl ⟨rfl, by rw [aH]; trivial⟩
 | true =>
   obtain ⟨s1, s2⟩ := (aH.cv aZ).1 bh
   have eR := Eb _ _ _ (fun hle => (bl hle).1) s2
   refine .inr ⟨aZ, s1, aL 0, eR, fun b U => (bound 0 b U).1, fun b U => (bound 0 b U).2.1, fun u b U hu => ?_, fun b U => (bound 0 b U).2.2.1⟩
   rcases b6 u b hu with hu | ⟨i, ak⟩
   ·exact (bound 0 b U).2.2.2 u hu
   ·exact al.eU 0 (i + 1) b (by omega) U ak
theorem Lh (h : bE w0 F0 X F S s az w) {ps : List cj} {vs : List Value} {f : FuncId} {r : I} (hl : ps.length = vs.length)
  (hJ : ∀ (i : Nat) (p : cj) (v : Value), ps[i]? = some p → vs[i]? = some v → p.a.plain = true ∧ aH w F s az p.a v (fun _ => False))
  (fs : ∀ p ∈ ps, p.ok s) (ji : hg ps = true) (bB : aU C f (ps.map (·.d)) r (ps.map (·.o))) (aO : r.res = true)
  (bl : i1 ps = true → r.c8 = true ∧ ∀ p ∈ ps, p.o.c8 = true) :
  lT C.P f vs.toArray w fun v aD => ∃ bI aL, bE w0 F0 X bI aL (g2 (eu s ps) ps) az aD ∧ jA w0 X bI aL (g2 (eu s ps) ps) az aD r v ∧ ∀ b, F b → bI b ∧ aD.heap[b]? = w.heap[b]? :=
 D8 h hl hJ fs ji (fun Fc kp dH _ _ an => bB w Fc kp dH vs (by simp [hl]) an) aO bl
end
structure cg where
 dst : Option Nat
 bu : eX
 guard : Option (Nat × Bool)
def tq (ops : Array Oper) : Option (Nat × Bool) → Option (Option (Nat × Bool))
 | none => some none
 | some (j, b) => match (ops[j]?).bind (·.dst) with
   | some t => some (some (t, b))
   | none => none
structure Fr where
 n : Nat
 fx : List Nat
def jH (n : Fr) : Option Nat → Bool
 | none => true
 | some t => decide (t < n.n) && !n.fx.contains t
def mE (op : Op) : eX := match cJ op with
 | some bu => bu
 | none => .bad
def nh (n : Fr) (ops : Array Oper) (o : Oper) : Option cg :=
 if jH n o.dst = true then match tq ops o.guard with
  | some g => some ⟨o.dst, mE o.op, g⟩
  | none => none
 else none
def ni (n : Fr) (ops : Array Oper) : List Oper → Option (List cg)
 | [] => some []
 | o :: os => match nh n ops o, ni n ops os with
   | some r, some rs => some (r :: rs)
   | _, _ => none
def wA (C : bZ) (s : aj) (f : aA) (args : List aA) (K : I → aj → Prop) : Prop :=
 ∃ (g : FuncId) (caps : List I) (ps : List cj) (r : I), aG s f = .fn g caps ∧ I.e2 caps = true ∧ ps.map (·.a) = args.map (aG s) ++ caps ∧ (∀ p ∈ ps, p.ok s) ∧ hg ps = true ∧
   aU C g (ps.map (·.d)) r (ps.map (·.o)) ∧ r.res = true ∧ (i1 ps = true → r.c8 = true ∧ ∀ p ∈ ps, p.o.c8 = true) ∧ K r (g2 (eu s ps) ps)
mutual
def I.gw (s : aj) : I → Bool
 | .h x q => q.isEmpty && (s x).own
 | .U x _ => !(s x).plain
 | .an _ _ => false
 | .hole => true
 | .fn _ cap => I.oC s cap
 | d => d.plain
def I.oC (s : aj) : List I → Bool
 | [] => true
 | d :: ds => d.gw s && I.oC s ds
end
def nQ (s : aj) : List (Nat × I) → aj
 | [] => s
 | p :: L => nQ (cY s p.1 p.2) L
def nj (s : aj) : List (Nat × I) → Bool
 | [] => true
 | p :: L => p.2.gw s && nj s L
def kq (s : aj) (us : List Nat) : List (Nat × I) := us.map fun u => (u, s u)
def lU (C : bZ) (s : aj) (bu : eX) (K : I → aj → Prop) : Prop :=
 match bu with
 | .call f args => ∃ (g : FuncId) (caps : List I) (ps : List cj) (r : I), aG s f = .fn g caps ∧ I.e2 caps = true ∧ ps.map (·.a) = args.map (aG s) ++ caps ∧ (∀ p ∈ ps, p.ok s) ∧ hg ps = true ∧
   aU C g (ps.map (·.d)) r (ps.map (·.o)) ∧ r.res = true ∧ (i1 ps = true → r.c8 = true ∧ ∀ p ∈ ps, p.o.c8 = true) ∧ K r (g2 (eu s ps) ps)
 | .shr bu => ∃ av s1, bH C s bu = some (av, s1) ∧ av.tree = true ∧ (∀ vs, av ≠ .tuple vs) ∧ K av.share s1
 | .kI f args u x => s u = .h x [] ∧ (s x).own = true ∧ wA C s f args fun av s1 => s1 u = .hole ∧ (s1 x).own = true ∧ K av (cY s1 u (.h x []))
 | .kJ f args us => nj s (kq s us) = true ∧ wA C s f args fun av s1 => nj s1 (kq s us) = true ∧ K av (nQ s1 (kq s us))
 | bu => ∃ av s1, bH C s bu = some (av, s1) ∧ K av s1
theorem wB {C : bZ} {s : aj} {bu : eX} {K cW : I → aj → Prop} (h : lU C s bu K) (ay : ∀ av s, K av s → cW av s) : lU C s bu cW := by
 cases bu with
 | call f args =>
   obtain ⟨g, caps, ps, r, ab, fE, af, aF, bb, bV, cd, cf, er⟩ := h
   exact ⟨g, caps, ps, r, ab, fE, af, aF, bb, bV, cd, cf, ay _ _ er⟩
 | shr bu =>
   obtain ⟨av, s1, ab, af, aF, bb⟩ := h
   exact ⟨av, s1, ab, af, aF, ay _ _ bb⟩
 | kI f args u x =>
   obtain ⟨bN, b6, g, caps, ps, r, ab, fE, af, aF, bb, bV, cd, cf, er, g1, gp⟩ := h
   exact ⟨bN, b6, g, caps, ps, r, ab, fE, af, aF, bb, bV, cd, cf, er, g1, ay _ _ gp⟩
 | kJ f args us =>
   obtain ⟨b6, g, caps, ps, r, ab, fE, af, aF, bb, bV, cd, cf, er, g1⟩ := h
   exact ⟨b6, g, caps, ps, r, ab, fE, af, aF, bb, bV, cd, cf, er, ay _ _ g1⟩
 | _ =>
   obtain ⟨av, s1, ab, af⟩ := h
   exact ⟨av, s1, ab, ay _ _ af⟩
def j3 (C : bZ) (s : aj) (o : cg) (K : aj → Prop) : Prop :=
 match o.guard with
 | none => lU C s o.bu fun av s1 => K (fin s1 o.dst av)
 | some (t, b) => match s t with
   | .bool eO => if eO = b then lU C s o.bu (fun av s1 => K (fin s1 o.dst av)) else K (fin s o.dst (.tuple []))
   | .tuple [] => K (fin s o.dst (.tuple []))
   | _ => False
def jI (C : bZ) (s : aj) : List cg → (aj → Prop) → Prop
 | [], K => K s
 | o :: os, K => j3 C s o fun s1 => jI C s1 os K
def iq (C : bZ) (ros : List cg) (s : aj) : List Nat → (aj → Prop) → Prop
 | [], K => K s
 | i :: l, K => match ros[i]? with
   | none => iq C ros s l K
   | some o => j3 C s o fun s1 => iq C ros s1 l K
theorem Li (C : bZ) (K : aj → Prop) : ∀ (rs pre : List cg) (s : aj), jI C s rs K → iq C (pre ++ rs) s ((List.range rs.length).map (· + pre.length)) K := by
 intro rs
 induction rs with
 | nil => intro pre s h; exact h
 | cons r rs ih =>
   intro pre s h
   rw [List.length_cons, List.range_succ_eq_map, List.map_cons, List.map_map]
   simp only [iq, Nat.zero_add]
   rw [List.getElem?_append_right (Nat.le_refl _)]
   simp only [Nat.sub_self, List.getElem?_cons_zero]
   have key : ∀ s1, jI C s1 rs K → iq C (pre ++ r :: rs) s1 ((List.range rs.length).map ((fun x => x + pre.length) ∘ Nat.succ)) K := by
    intro s1 ab
    have := ih (pre ++ [r]) s1 ab
    simp only [List.append_assoc, List.singleton_append, List.length_append, List.length_singleton] at this
    have e : ((fun x => x + pre.length) ∘ Nat.succ) = fun x => x + (pre.length + 1) := by funext x; simp; omega
    rw [e]; exact this
   simp only [jI] at h
   unfold j3 at h ⊢
   split
   ·rename_i bO; rw [bO] at h; exact wB h fun av s1 => key _
   ·rename_i t b bO
    rw [bO] at h
    simp only at h
    split
    ·rename_i eO aa
     rw [aa] at h
     simp only at h
     split
     ·rename_i U; rw [if_pos U] at h; exact wB h fun av s1 => key _
     ·rename_i U; rw [if_neg U] at h; exact key _ h
    ·rename_i aa; rw [aa] at h; exact key _ h
    ·rename_i ab af
     split at h
     ·exact ab _ (by assumption)
     ·exact af (by assumption)
     ·exact h
structure Rel (w0 : World) (F0 X : Nat → Prop) (n : Fr) (ρ : Nat → Value) (s : aj) (a : Act) (w : World) : Prop where
 defers : a.defers = []
 size : a.tmps.size = n.n
 fixed : ∀ i ∈ n.fx, a.tmps.getD i undef = ρ i
 rel : ∃ F S, bE w0 F0 X F S s (fun t => a.tmps.getD t undef) w
section
variable {C : bZ} {w0 w : World} {F0 X : Nat → Prop} {n : Fr} {ρ : Nat → Value} {s s1 : aj} {a : Act} {av : I} {Q : Exit → Act → World → Prop}
theorem tr {dst : Option Nat} (v : Value) (aa : a.tmps.size = n.n) (ah : jH n dst = true) :
  (fun t => (a.put dst v).tmps.getD t undef) = mm (fun t => a.tmps.getD t undef) dst v ∧ (a.put dst v).tmps.size = n.n ∧ (a.put dst v).defers = a.defers := by
 cases dst with
 | none => exact ⟨rfl, aa, rfl⟩
 | some d =>
   simp only [jH, Bool.and_eq_true, decide_eq_true_eq] at ah
   refine ⟨?_, by simp [Act.put, aa], rfl⟩
   funext t
   simp only [Act.put, mm, cY, Array.getD_eq_getD_getElem?]
   by_cases h : t = d
   ·subst h
    rw [if_pos rfl, Array.getElem?_setIfInBounds_self_of_lt (by omega)]; rfl
   ·rw [if_neg h, Array.getElem?_setIfInBounds_ne (fun e => h e.symm)]
theorem Rel.put {F S} (ah : a.defers = []) (aa : a.tmps.size = n.n) (bB : ∀ i ∈ n.fx, a.tmps.getD i undef = ρ i) {aD : World} (aO : bE w0 F0 X F S s (fun t => a.tmps.getD t undef) aD) {v : Value} (aK : jA w0 X F S s (fun t => a.tmps.getD t undef) aD av v)
  {dst : Option Nat} (fs : jH n dst = true) : Rel w0 F0 X n ρ (fin s dst av) (a.put dst v) aD := by
 obtain ⟨aJ, aP, a_⟩ := tr (n := n) (dst := dst) v aa fs
 obtain ⟨aL, bq⟩ := aO.fin aK dst
 refine ⟨a_.trans ah, aP, fun i ak => ?_, F, aL, by rw [aJ]; exact bq⟩
 rw [congrFun aJ i]
 cases dst with
 | none => exact bB i ak
 | some d =>
   simp only [jH, Bool.and_eq_true, Bool.not_eq_true', List.contains_eq_mem, decide_eq_false_iff_not] at fs
   have cV : i ≠ d := fun e => fs.2 (by rw [← e]; exact ak)
   simp only [mm]
   rw [h4 _ _ cV]
   exact bB i ak
theorem Rel.skip (h : Rel w0 F0 X n ρ s a w) {dst : Option Nat} (fs : jH n dst = true) : Rel w0 F0 X n ρ (fin s dst (.tuple [])) (a.put dst undef) w := by
 obtain ⟨ah, aa, bB, F, S, aO⟩ := h
 refine Rel.put (av := .tuple []) ah aa bB aO (.inl ⟨rfl, (aH.cv (d := .tuple []) rfl).2 ⟨?_, ?_⟩⟩) fs
 ·exact ⟨#[], rfl, rfl, fun k d x ay => by simp at ay⟩
 ·rw [ax, a6]; rfl
theorem Ec {F : Nat → Prop} {az : Nat → Value} {w : World} : ∀ {ds es : List I} {vs us : List Value}, dE w F s az ds vs → dE w F s az es us → dE w F s az (ds ++ es) (vs ++ us) := by
 intro ds
 induction ds with
 | nil => intro es vs us ab af; rw [dE] at ab; subst ab; exact af
 | cons d ds ih =>
   intro es vs us ab af
   rw [dE] at ab
   obtain ⟨v, iW, rfl, aY, bs⟩ := ab
   rw [List.cons_append, List.cons_append, dE]
   exact ⟨v, _, rfl, aY, ih bs af⟩
theorem Ed {F : Nat → Prop} {az : Nat → Value} {w : World} : ∀ {ds : List I} {vs : List Value}, dE w F s az ds vs → ds.length = vs.length ∧ ∀ (i : Nat) (d : I) (v : Value), ds[i]? = some d → vs[i]? = some v → aH w F s az d v (fun _ => False) := by
 intro ds
 induction ds with
 | nil => intro vs h; rw [dE] at h; subst h; exact ⟨rfl, fun i d v h => by simp at h⟩
 | cons d ds ih =>
   intro vs h
   rw [dE] at h
   obtain ⟨v, iW, rfl, aY, bs⟩ := h
   obtain ⟨bN, b6⟩ := ih bs
   refine ⟨by simp [bN], fun i br fp ah aK => ?_⟩
   cases i with
   | zero => simp at ah aK; subst ah aK; exact aY
   | succ i => exact b6 i br fp (by simpa using ah) (by simpa using aK)
theorem mF {op : Op} {bu : eX} (h : mE op = bu) : bu = .bad ∨ cJ op = some bu := by
 unfold mE at h
 split at h
 ·subst h; right; assumption
 ·exact .inl h.symm
theorem Lj {op : Op} {bu : eX} : cJ op ≠ some (.shr bu) := by
 intro h
 unfold cJ at h
 split at h <;> (try split at h) <;> (try split at h) <;> (try split at h) <;> (try simp [Option.map_eq_some_iff] at h)
theorem Lk {op : Op} {f : aA} {args : List aA} {u x : Nat} : cJ op ≠ some (.kI f args u x) := by
 intro h
 unfold cJ at h
 split at h <;> (try split at h) <;> (try split at h) <;> (try split at h) <;> (try simp [Option.map_eq_some_iff] at h)
theorem Ll {op : Op} {f : aA} {args : List aA} {us : List Nat} : cJ op ≠ some (.kJ f args us) := by
 intro h
 unfold cJ at h
 split at h <;> (try split at h) <;> (try split at h) <;> (try split at h) <;> (try simp [Option.map_eq_some_iff] at h)
theorem Lm {op : Op} {T : TypeId} {x : aA} : cJ op ≠ some (.j0 T x) := by
 intro h
 unfold cJ at h
 split at h <;> (try split at h) <;> (try split at h) <;> (try split at h) <;> (try simp [Option.map_eq_some_iff] at h)
theorem Ln {op : Op} {T bx : TypeId} {x y : aA} : cJ op ≠ some (.lN T bx x y) := by
 intro h
 unfold cJ at h
 split at h <;> (try split at h) <;> (try split at h) <;> (try split at h) <;> (try simp [Option.map_eq_some_iff] at h)
theorem Lo {op : Op} {T bx : TypeId} {x y : aA} (h : cJ op = some (.app T bx x y)) : ∃ a b, op = .call ⟨.builtin .append, #[a, b], #[T, bx]⟩ ∧ db a = some x ∧ db b = some y := by
 cases op with
 | call c =>
   obtain ⟨callee, args, argTypes⟩ := c
   simp only [cJ] at h
   split at h
   ·split at h <;> simp at h
   ·split at h <;> simp at h
   ·split at h <;> simp at h
   ·(split at h <;> try split at h) <;> simp at h
   ·(split at h <;> try split at h) <;> simp at h
   ·split at h
    ·rename_i a b ts wv kK pK
     split at h
     ·rename_i cx iH au bC
      simp only [Option.some.injEq, eX.app.injEq] at h
      obtain ⟨rfl, rfl, rfl, rfl⟩ := h
      refine ⟨a, b, ?_, au, bC⟩
      have aJ : args = #[a, b] := by apply Array.ext'; exact kK
      have aP : argTypes = #[ts, wv] := by apply Array.ext'; exact pK
      subst aJ aP
      rfl
     ·cases h
    ·cases h
   ·cases h
 | makeFunc fn first cs =>
   cases fn <;> simp only [cJ] at h <;> first | (cases h; done) | (split at h <;> simp at h)
 | slice T x cF ak gn =>
   cases gn <;> simp only [cJ] at h <;> first | (cases h; done) | (split at h <;> simp at h)
 | _ => simp only [cJ] at h <;> first | (cases h; done) | (simp at h; done) | (split at h <;> simp at h)
theorem bE.alias {F : Nat → Prop} {S : Nat → Nat → Prop} {az : Nat → Value} {u x : Nat} (h : bE w0 F0 X F S s az w) (hu : s u = .hole) (au : (s x).own = true) (aK : cm (az u) = cm (az x)) (ab : Value.fN (az u) = true) :
  bE w0 F0 X F (fi S u (fun _ => False)) (cY s u (.h x [])) az w := by
 have dC : cY az u (az u) = az := by funext y; simp only [cY]; split <;> simp_all
 have := h.q1 (t := u) (d := .h x []) (v := az u) rfl (by
  rw [aH]
  intro d ah an
  simp only [I.sub, Option.some.injEq] at ah
  subst ah
  exact ⟨cm (az x), none, rfl, aK, ((nO au).2.2.2.2.2 _).2 ab⟩)
 rwa [dC] at this
theorem jA.less {F : Nat → Prop} {S aL : Nat → Nat → Prop} {az : Nat → Value} {s1 : aj} {v : Value} (bL : ∀ u b, aL u b → S u b) (aO : av.res = true) (h : jA w0 X F S s az w av v) : jA w0 X F aL s1 az w av v := by
 rcases h with ⟨ab, af⟩ | ⟨ab, af, Sn, aF, bb, bV, cd, cf⟩
 ·refine .inl ⟨ab, ?_⟩
  cases av <;> first
   | (simp [I.res] at aO; done)
   | (rw [aH]; trivial)
   | (rw [aH] at af ⊢; exact af)
 ·exact .inr ⟨ab, af, Sn, aF, bb, bV, fun u b U hu => cd u b U (bL u b hu), cf⟩
theorem Aq (bp : C.Ok) (h : Rel w0 F0 X n ρ s a w) {o : Oper} {f : aA} {args : List aA} (ck : cJ o.op = some (.call f args)) (ah : jH n o.dst = true) {K : I → aj → Prop} {L : aj → Prop} {next : Act → World → Prop}
  (hw : wA C s f args K) (pR : ∀ F S bI aL w aD av s1 v, bE w0 F0 X F S s (fun t => a.tmps.getD t undef) w → K av s1 → av.res = true → bE w0 F0 X bI aL s1 (fun t => a.tmps.getD t undef) aD → jA w0 X bI aL s1 (fun t => a.tmps.getD t undef) aD av v → (∀ b, F b → bI b ∧ aD.heap[b]? = w.heap[b]?) →
   ∃ s2 dg, L (fin s2 o.dst av) ∧ bE w0 F0 X bI dg s2 (fun t => a.tmps.getD t undef) aD ∧ jA w0 X bI dg s2 (fun t => a.tmps.getD t undef) aD av v)
  (bl : ∀ ao cl aD, L ao → Rel w0 F0 X n ρ ao cl aD → next cl aD) : o.wp C.P a w next Q := by
 have mG := h
 obtain ⟨ir, dB, g3, F, S, aO⟩ := h
 obtain ⟨g, caps, ps, r, ab, fE, af, aF, bb, bV, cd, cf, er⟩ := hw
 obtain ⟨dst, op, ty, pos, after, guard⟩ := o
 simp only at ck ah pR
 cases op with
 | call c =>
   obtain ⟨callee, kM, argTypes⟩ := c
   simp only [cJ] at ck
   split at ck
   ·split at ck
    ·rename_i tt _ _ Lp xs bB mC
     simp only [Option.some.injEq, eX.call.injEq] at ck
     obtain ⟨rfl, rfl⟩ := ck
     obtain ⟨f1, f2⟩ := fg aO (fun _ => rfl) bB
     rw [ab, aH] at f2
     obtain ⟨arr, f3, f4⟩ := f2
     have pS : execOp a.eval { dst, op := .call { callee := .value tt, args := kM, argTypes }, type := ty, pos, after, guard } = callFunc g ((kM.toList.map a.eval ++ arr.toList).toArray) := by
      have : a.eval tt = .func (.func g) #[] arr := f3
      simp only [execOp, resolve, this, Deferred.ofValue, pure_bind, invoke]
      congr 1
      apply Array.ext'; simp
     unfold Oper.wp
     rw [pS]
     have tu : dE w F s (fun t => a.tmps.getD t undef) (xs.map (aG s) ++ caps) (kM.toList.map a.eval ++ arr.toList) := Ec (wq aO (fun _ => rfl) _ _ (pI mC)) f4
     rw [← af] at tu
     obtain ⟨gE, l2⟩ := Ed tu
     have fj : ∀ d ∈ xs.map (aG s) ++ caps, d.plain = true := by
      intro d ah
      rcases List.mem_append.1 ah with ah | ah
      ·obtain ⟨x, au, rfl⟩ := List.mem_map.1 ah
       exact C5 s x fun av e => by
        subst e
        have hm := pI mC
        have : some (aA.c av) ∈ xs.map some := List.mem_map.2 ⟨_, au, rfl⟩
        rw [← hm] at this
        obtain ⟨o, _, bU⟩ := List.mem_map.1 this
        cases o with
        | const v => simp only [db, Option.map_eq_some_iff] at bU; obtain ⟨c, al, e⟩ := bU; cases e; exact zo al
        | tmp n => simp [db] at bU
        | func g => simp [db] at bU
        | global g => simp [db] at bU
      ·obtain ⟨k, ay⟩ := List.getElem?_of_mem ah
       exact vK fE ay
     have Ar := Lh (C := C) aO (ps := ps) (vs := kM.toList.map a.eval ++ arr.toList) (f := g) (r := r) (by simpa using gE)
      (fun i p v an aK => ⟨fj p.a (by rw [← af]; exact List.mem_map.2 ⟨p, List.mem_of_getElem? an, rfl⟩), l2 i p.a v (by simp [an]) aK⟩) aF bb bV cd cf
     rcases Ar with ⟨dx, eb⟩ | ⟨v, aD, dx, bI, aL, eb, hH, jW⟩
     ·rw [dx, Oper.upon_enter]
      refine Calls.mono eb ?_
      rintro e aD ⟨v, rfl, bI, aL, bN, b6, et⟩
      obtain ⟨s2, dg, eV, fY, gK⟩ := pR _ _ _ _ _ _ _ _ _ aO er cd bN b6 et
      exact bl _ _ _ eV (Rel.put ir dB g3 fY gK ah)
     ·rw [dx, Oper.upon_value]
      obtain ⟨s2, dg, eV, fY, gK⟩ := pR _ _ _ _ _ _ _ _ _ aO er cd eb hH jW
      exact bl _ _ _ eV (Rel.put ir dB g3 fY gK ah)
    ·cases ck
   ·split at ck
    ·simp only [Option.map_eq_some_iff] at ck; obtain ⟨_, _, ck⟩ := ck; cases ck
    ·cases ck
   ·split at ck
    ·simp only [Option.map_eq_some_iff] at ck; obtain ⟨_, _, ck⟩ := ck; cases ck
    ·cases ck
   iterate 3
    ·split at ck
     ·split at ck <;> cases ck
     ·cases ck
   ·cases ck
 | makeFunc fn first cs =>
   cases fn <;> simp only [cJ] at ck <;> first | (cases ck; done) | (split at ck <;> simp at ck)
 | slice T x cF ak gn =>
   cases gn <;> simp only [cJ] at ck <;> first | (cases ck; done) | (split at ck <;> simp at ck)
 | _ => simp only [cJ] at ck <;> first | (cases ck; done) | (simp at ck; done) | (split at ck <;> simp at ck)
theorem Lq (bp : C.Ok) (h : Rel w0 F0 X n ρ s a w) {o : Oper} {bu : eX} (ck : cJ o.op = some bu) (ah : jH n o.dst = true) {K : aj → Prop} {next : Act → World → Prop}
  (hw : lU C s bu fun av s1 => K (fin s1 o.dst av)) (bl : ∀ ao cl aD, K ao → Rel w0 F0 X n ρ ao cl aD → next cl aD) : o.wp C.P a w next Q := by
 have mG := h
 obtain ⟨ir, dB, g3, F, S, aO⟩ := h
 have plain : ∀ av s1, bH C s bu = some (av, s1) → K (fin s1 o.dst av) → o.wp C.P a w next Q := by
  intro av s1 he ay
  obtain ⟨r, aD, v, bI, aL, ab, af, aF, bb⟩ := DO (a := a) bp aO (fun _ => rfl) ck he
  unfold Oper.wp
  rw [ab]
  rcases af with rfl | ⟨rfl, rfl⟩
  ·exact bl _ _ _ ay (Rel.put ir dB g3 aF bb ah)
  ·exact bl _ _ _ ay (Rel.put ir dB g3 aF bb ah)
 cases bu with
 | shr bu => exact (Lj ck).elim
 | lN T bx x y => exact (Ln ck).elim
 | call f args => exact Aq bp ⟨ir, dB, g3, F, S, aO⟩ ck ah (K := fun av s1 => K (fin s1 o.dst av)) hw (fun _ _ _ aL _ _ _ s1 _ _ af _ aF bb _ => ⟨s1, aL, af, aF, bb⟩) bl
 | kI f args u x => exact (Lk ck).elim
 | kJ f args L => exact (Ll ck).elim
 | j0 T x => exact (Lm ck).elim
 | _ =>
   obtain ⟨av, s1, he, ay⟩ := hw
   exact plain av s1 he ay
theorem jA.share {F : Nat → Prop} {S : Nat → Nat → Prop} {az : Nat → Value} {v : Value} (h : bE w0 F0 X F S s az w) (aK : jA w0 X F S s az w av v) (aZ : av.tree = true) (bl : ∀ vs, av ≠ .tuple vs) :
  ∃ bI, bE w0 F0 X bI S s az w ∧ jA w0 X bI S s az w av.share v := by
 obtain ⟨Sn, ia, bF, dJ, cz, e4, ft⟩ : ∃ Sn : Nat → Prop, du av v ∧ ax w F av (cm v) Sn ∧ (∀ b, Sn b → b < w.heap.size) ∧ (∀ b, Sn b → ¬ F b) ∧ (∀ u b, Sn b → ¬ S u b) ∧ (∀ b, Sn b → X b ∨ w0.heap.size ≤ b) := by
  rcases aK with ⟨ab, af⟩ | ⟨_, af, Sn, aF, bb, bV, cd, cf⟩
  ·rw [aH.cv aZ] at af
   exact ⟨fun _ => False, af.1, af.2, fun _ h => h.elim, fun _ h => h.elim, fun _ _ h => h.elim, fun _ h => h.elim⟩
  ·exact ⟨Sn, af, aF, bb, bV, cd, cf⟩
 refine ⟨fun b => F b ∨ Sn b, ?_, .inl ⟨Af av, ?_⟩⟩
 ·exact {
   gk := fun b U => .inl (h.gk b U)
   gC := fun b U => by
    rcases U with U | U
    ·exact h.gC b U
    ·exact .inr (ft b U)
   eT := fun b U => U.elim (h.eT b) (dJ b)
   dM := h.dM
   ff := fun t b U bB => bB.elim (h.ff t b U) (fun aa => e4 t b aa U)
   eU := h.eU
   dh := h.dh
   da := fun t => aH.frame (fun _ _ => rfl) (fun b U => .inl U) (fun _ _ _ => rfl) h.da _ _ _ (fun _ _ => rfl) (h.da t)
   old := h.old
   size := h.size
   os := h.os
   tape := h.tape
   output := h.output }
 ·have Lr : av.share.tree = true := by cases av <;> first | exact aZ | rfl
  rw [aH.cv Lr]
  exact ⟨Ah bl ia, ax.shared (fun b U => .inl U) av _ Sn (fun b U => .inr U) bF⟩
theorem Ls {op : Op} {T : TypeId} {x : aA} (h : cJ op = some (.di T x)) : ∃ a, op = .box T a ∧ db a = some x := by
 cases op with
 | box ts a =>
   simp only [cJ, Option.map_eq_some_iff, eX.di.injEq] at h
   obtain ⟨y, bC, rfl, rfl⟩ := h
   exact ⟨a, rfl, bC⟩
 | _ =>
   exfalso
   unfold cJ at h
   split at h <;> (try split at h) <;> (try split at h) <;> (try split at h) <;> (try simp [Option.map_eq_some_iff] at h) <;> contradiction
theorem Lt {aD : World} {F bI : Nat → Prop} {s s1 : aj} {az : Nat → Value} (bo : ∀ b, F b → bI b ∧ aD.heap[b]? = w.heap[b]?) : ∀ (n : Nat),
  (∀ (d : I) (v : Value) (S : Nat → Prop), SizeOf.sizeOf d ≤ n → d.gw s = true → d.gw s1 = true → aH w F s az d v S → aH aD bI s1 az d v (fun _ => False)) ∧
  (∀ (ds : List I) (vs : List Value), SizeOf.sizeOf ds ≤ n → I.oC s ds = true → I.oC s1 ds = true → dE w F s az ds vs → dE aD bI s1 az ds vs) := by
 intro n
 induction n with
 | zero =>
   refine ⟨fun d v S bG => ?_, fun ds vs bG => ?_⟩
   ·cases d <;> simp at bG <;> omega
   ·cases ds <;> simp at bG <;> omega
 | succ n ih =>
   refine ⟨fun d v S bG bN b6 h => ?_, fun ds vs bG bN b6 h => ?_⟩
   ·cases d with
    | hole => rw [aH]; trivial
    | h x q =>
      simp only [I.gw, Bool.and_eq_true, List.isEmpty_iff] at bN b6
      obtain ⟨rfl, bN⟩ := bN
      rw [aH] at h ⊢
      obtain ⟨cw, a, fo, gi, gR⟩ := h (s x) (by simp only [I.sub]) (nO bN).1
      simp only [cU, Option.some.injEq, Prod.mk.injEq, true_and] at fo
      intro d ah _
      simp only [I.sub, Option.some.injEq] at ah
      subst ah
      exact ⟨cm (az x), none, by simp only [cU], by rw [gi, ← fo.1], ((nO b6.2).2.2.2.2.2 _).2 (((nO bN).2.2.2.2.2 _).1 gR)⟩
    | an x q => simp [I.gw] at bN
    | U x k =>
      simp only [I.gw, Bool.not_eq_true'] at bN
      rw [aH] at h ⊢
      obtain ⟨b, cur, e, fr, ab, af, aF, bb⟩ := h bN
      exact fun _ => ⟨b, cur, e, fr, ab, (bo b af).1, (bo b af).2.trans aF, bb⟩
    | fn f cap =>
      simp only [I.gw] at bN b6
      rw [aH] at h ⊢
      obtain ⟨arr, rfl, al⟩ := h
      exact ⟨arr, rfl, ih.2 _ _ (by simp at bG; omega) bN b6 al⟩
    | _ =>
      simp only [I.gw] at bN
      have bq := (aH.cv rfl).1 h
      exact (aH.cv rfl).2 ⟨bq.1, ax.mono (fun b U => (bo b U).1) _ _ _ _ (fun _ h => h) (ax.frame (fun b U => (bo b U).2) _ _ _ (fun _ h => h.elim) (ax.plain _ _ _ _ bN bq.2))⟩
   ·cases ds with
    | nil => rw [dE] at h ⊢; exact h
    | cons d ds =>
      simp only [I.oC, Bool.and_eq_true] at bN b6
      rw [dE] at h ⊢
      obtain ⟨v, iW, rfl, ab, af⟩ := h
      simp at bG
      exact ⟨v, iW, rfl, ih.1 _ _ _ (by omega) bN.1 b6.1 ab, ih.2 _ _ (by omega) bN.2 b6.2 af⟩
theorem Lu {s : aj} {d : I} (h : d.gw s = true) : d.plain = true := by
 cases d <;> first | rfl | (simpa [I.gw] using h)
theorem bE.nQ {F : Nat → Prop} {az : Nat → Value} : ∀ (L : List (Nat × I)) (s : aj) (S : Nat → Nat → Prop), bE w0 F0 X F S s az w → (∀ p ∈ L, p.2.plain = true ∧ aH w F s az p.2 (az p.1) (fun _ => False)) →
  ∃ aL, bE w0 F0 X F aL (cB.nQ s L) az w ∧ ∀ u b, aL u b → S u b := by
 intro L
 induction L with
 | nil => intro s S h _; exact ⟨S, h, fun _ _ h => h⟩
 | cons p L ih =>
   intro s S h pR
   obtain ⟨ab, af⟩ := pR p (by simp)
   have dC : cY az p.1 (az p.1) = az := by funext u; simp only [cY]; split <;> simp_all
   have aF := h.q1 (t := p.1) ab af
   rw [dC] at aF
   have gj : ∀ x, x ≠ p.1 → (cY s p.1 p.2 x).tree = true → cY s p.1 p.2 x = s x ∧ az x = az x := fun x au _ => ⟨h4 _ _ au, rfl⟩
   obtain ⟨aL, aY, bs⟩ := ih _ _ aF (fun q cC => ⟨(pR q (by simp [cC])).1, (aH.void (t := p.1) gj (by rw [kF]; exact ab) _).1 _ _ _ (Nat.le_refl _) (pR q (by simp [cC])).2⟩)
   refine ⟨aL, aY, fun u b U => ?_⟩
   have := bs u b U
   simp only [fi] at this
   split at this
   ·exact this.elim
   ·exact this
theorem As {s : aj} : ∀ {L : List (Nat × I)}, nj s L = true → ∀ p ∈ L, p.2.gw s = true
 | q :: L, ab, p, an => by
   simp only [nj, Bool.and_eq_true] at ab
   rcases List.mem_cons.1 an with rfl | an
   ·exact ab.1
   ·exact As ab.2 p an
theorem Lv {s : aj} {us : List Nat} {p : Nat × I} (h : p ∈ kq s us) : p.1 ∈ us ∧ s p.1 = p.2 := by
 obtain ⟨u, hu, rfl⟩ := List.mem_map.1 h
 exact ⟨hu, rfl⟩
theorem Lw (bp : C.Ok) (h : Rel w0 F0 X n ρ s a w) {o : Oper} {bu : eX} (ck : mE o.op = bu.base) (ah : jH n o.dst = true) {K : aj → Prop} {next : Act → World → Prop}
  (hw : lU C s bu fun av s1 => K (fin s1 o.dst av)) (bl : ∀ ao cl aD, K ao → Rel w0 F0 X n ρ ao cl aD → next cl aD) : o.wp C.P a w next Q := by
 cases bu with
 | shr bu =>
   obtain ⟨av, s1, he, aZ, kL, ay⟩ := hw
   rcases mF ck with ck | ck
   ·change bu = .bad at ck
    subst ck; cases he
   obtain ⟨ir, dB, g3, F, S, aO⟩ := h
   obtain ⟨r, aD, v, bI, aL, ab, af, aF, bb⟩ := DO (a := a) bp aO (fun _ => rfl) ck he
   obtain ⟨pQ, b_, dq⟩ := jA.share aF bb aZ kL
   unfold Oper.wp
   rw [ab]
   rcases af with rfl | ⟨rfl, rfl⟩
   ·exact bl _ _ _ ay (Rel.put ir dB g3 b_ dq ah)
   ·exact bl _ _ _ ay (Rel.put ir dB g3 b_ dq ah)
 | bad => obtain ⟨av, s1, he, _⟩ := hw; cases he
 | kI f args u x =>
   obtain ⟨aJ, aP, hw⟩ := hw
   rcases mF ck with U | U
   ·cases U
   ·refine Aq bp h U ah hw ?_ bl
    rintro F S bI aL w aD av s1 v ia ⟨bF, dJ, cz⟩ e4 ft fO _
    have vS := ia.da u
    rw [aJ, aH] at vS
    obtain ⟨cw, a0, fo, gi, gR⟩ := vS (s x) (by simp only [I.sub]) (nO aP).1
    simp only [cU, Option.some.injEq, Prod.mk.injEq, true_and] at fo
    have Lx : ∀ y b, fi aL u (fun _ => False) y b → aL y b := by
     intro y b U
     simp only [fi] at U
     split at U
     ·exact U.elim
     ·exact U
    exact ⟨_, _, cz, ft.alias bF dJ (by rw [gi, ← fo.1]) (((nO aP).2.2.2.2.2 _).1 gR), fO.less Lx e4⟩
 | kJ f args L =>
   obtain ⟨aP, hw⟩ := hw
   rcases mF ck with U | U
   ·cases U
   ·refine Aq bp h U ah hw ?_ bl
    rintro F S bI aL w aD av s1 v ia ⟨bF, cz⟩ e4 ft fO jl
    obtain ⟨dg, aY, bs⟩ := ft.nQ (kq s L) s1 aL (fun p an => by
     have dx := (Lv an).2
     have eb := As aP p an
     have hH := As bF p an
     refine ⟨Lu eb, (Lt jl _).1 _ _ (S p.1) (Nat.le_refl _) eb hH ?_⟩
     have := ia.da p.1
     rw [dx] at this
     exact this)
    exact ⟨_, dg, cz, aY, fO.less bs e4⟩
 | j0 T x =>
   obtain ⟨av, s1, he, ay⟩ := hw
   rcases mF ck with U | U
   ·cases U
   ·obtain ⟨cx, tv, au⟩ := Ls U
    obtain ⟨ir, dB, g3, F, S, aO⟩ := h
    obtain ⟨dst, op, ty, pos, after, guard⟩ := o
    simp only at tv ah ay
    subst tv
    obtain ⟨r, aD, v, bI, aL, ab, af, aF, bb⟩ : Next C w0 F0 X (fun t => a.tmps.getD t undef) w (execOp a.eval ⟨dst, .box T cx, ty, pos, after, guard⟩) av s1 := (JN (T := T) aO (fg aO (fun _ => rfl) au).2 he).next
    unfold Oper.wp
    rw [ab]
    rcases af with rfl | ⟨rfl, rfl⟩
    ·exact bl _ _ _ ay (Rel.put ir dB g3 aF bb ah)
    ·exact bl _ _ _ ay (Rel.put ir dB g3 aF bb ah)
 | lN T bx x y =>
   obtain ⟨av, s1, he, ay⟩ := hw
   rcases mF ck with U | U
   ·cases U
   ·obtain ⟨cx, iH, tv, au, bC⟩ := Lo U
    obtain ⟨ir, dB, g3, F, S, aO⟩ := h
    simp only [bH, Option.map_eq_some_iff, Prod.mk.injEq] at he
    obtain ⟨d, fV, rfl, rfl⟩ := he
    obtain ⟨v, aD, bI, aL, ab, af, aF⟩ := Ks (ty := o.type) bp aO (fg aO (fun _ => rfl) au).2 (fg aO (fun _ => rfl) bC).2 fV
    have pS : execOp a.eval o = (do pure (.value (← Builtin.append_ #[T, bx] o.type #[a.eval cx, a.eval iH]))) := by
     obtain ⟨dst, op, ty, pos, after, guard⟩ := o
     simp only at tv
     subst tv
     simp [execOp, resolve, invoke, builtin]
    unfold Oper.wp
    rw [pS]
    simp only [Sem.run_bind, ab, Result.andThen]
    exact bl _ _ _ ay (Rel.put ir dB g3 af aF ah)
 | _ =>
   rcases mF ck with U | U
   ·cases U
   ·exact Lq bp h U ah hw bl
end
end Go.cB
