/- Part of a proof that a law returns true for every input. No condition. -/
import Derived.Test.YtbemmmimelklkaaGreatFwD
import Derived.Laws.Tables
namespace Go.dk
section
variable {C : ck} {w0 w : World} {F0 X F : Nat → Prop} {S : Nat → Nat → Prop} {s s1 : ar} {aF : Nat → Value} {av : I}
theorem yI (z : List Value) : ∀ n, (List.range (n * z.length)).map (fun i => z[i % z.length]!) = (List.replicate n z).flatten
 | 0 => by simp
 | n + 1 => by
   rw [Nat.add_mul, Nat.one_mul, List.range_add, List.map_append, yI z n, List.replicate_succ', List.flatten_append]
   congr 1
   simp only [List.map_map, List.flatten_cons, List.flatten_nil, List.append_nil]
   apply List.ext_getElem
   ·simp
   ·intro i ai aj
    have au : i < z.length := aj
    simp [Nat.mod_eq_of_lt au, au]
theorem bm.replicate {d : I} {cs : List Value} (h : ∀ a1, aB w F d cs a1) : ∀ n a1, bm w F (List.replicate n d) (List.replicate n cs).flatten a1
 | 0, a1 => by simp only [List.replicate_zero, List.flatten_nil]; rw [bm]
 | n + 1, a1 => by
   rw [List.replicate_succ, List.replicate_succ, List.flatten_cons, bm]
   exact ⟨cs, _, fun _ => False, fun _ => False, rfl, h _, bm.replicate h n _, fun _ h => h.elim, fun _ h => h.elim, fun _ h => h.elim⟩
def eV (C : ck) (T : TypeId) (l c : I) : Option I :=
 match (C.T T).k, l, c with
 | .slice e, .int .i64 n, .int .i64 m => if n = m ∧ 0 ≤ n ∧ (C.T e).ok = true ∧ (C.T e).zero.wd = (C.T e).sz ∧ (flat (C.T e).zero).isSome = true ∧ (C.T e).sz ≠ 0 ∧ (C.T e).bytes * n ≤ 140737488355328 ∧ n ≤ 9223372036854775807 then
   some (.aw (C.T e).sz (List.replicate n.toNat (C.T e).zero)) else none
 | _, _, _ => none
theorem Ob (bB : C.fq) (h : bW w0 F0 X F S s aF w) {T : TypeId} {l c : I} {GL GM : Value} (hl : aW w F s aF l GL (fun _ => False)) (ay : aW w F s aF c GM (fun _ => False)) (he : eV C T l c = some av) :
  Good C w0 F0 X aF w (Instr.makeSlice T GL GM) av s := by
 unfold eV at he
 split at he
 ·rename_i e n m aE
  have := pe hl; subst this
  have := pe ay; subst this
  obtain ⟨CP, d, CQ, a4, a_, a2, c1, c9, cl, cf⟩ := bB.info (g9 aE (by simp))
  rw [aE] at cf
  have := kN cf; subst this
  split at he
  ·rename_i q0
   obtain ⟨rfl, bg, nF, oC, pj, e4, GN, CT⟩ := q0
   simp only [Option.some.injEq] at he; subst he
   obtain ⟨i, CR, z, f1, f2, f3, f4, f5, f6, f7⟩ := bB.info nF
   obtain ⟨fl, k7⟩ := Option.isSome_iff_exists.1 pj
   have pk := f5 fl k7
   have jm : ∀ a1, aB w F (C.T e).zero fl a1 := fun a1 => (aB.flat _).1 _ fl a1 (Nat.le_refl _) k7
   have nH : fl.length = (C.T e).sz := by rw [aB.length _ _ _ (jm (fun _ => False)), oC]
   obtain ⟨n, rfl⟩ := Int.eq_ofNat_of_zero_le bg
   simp only [Int.toNat_natCast]
   have tc : IntKind.i64.wrap (n : Int) = n := by
    rw [IntKind.wrap_i64]; omega
   have ta : ∀ k (w : World), (askRoom k).run C.P w = .ok () w := by
    intro k w
    unfold askRoom
    split <;> rfl
   have pd : ((Array.range (n * (C.T e).sz)).map (fl.toArray[· % fl.toArray.size]!)).toList = (List.replicate n fl).flatten := by
    have := yI fl n
    rw [nH] at this
    simpa [nH] using this
   have fz : ¬ (281474976710656 < (i.bytes : Int) * n) := by
    rw [f3]; omega
   have yJ : ¬ ((n : Int) < 0) := by omega
   have run : (Instr.makeSlice T (.int .i64 n) (.int .i64 n)).run C.P w = .ok (.slice (some ⟨w.heap.size, 0, none⟩) n n)
     (w.alloc (.cells (if n * (C.T e).sz = 0 then (Array.range (n * (C.T e).sz)).map (fun _ => default) else (Array.range (n * (C.T e).sz)).map (fl.toArray[· % fl.toArray.size]!)) e)) := by
    by_cases a9 : n * (C.T e).sz = 0
    ·simp [Instr.makeSlice, run_underlying cl, asInt, asIntOf, qV f1, tc, fz, yJ, ta, jR f1, f2, a9, newRow]
    ·simp only [a9, if_false]
     simp [Instr.makeSlice, run_underlying cl, asInt, asIntOf, qV f1, tc, fz, yJ, ta, jR f1, f2, a9, newRow, s3 f1 f4, pk]
   have kH : (if n * (C.T e).sz = 0 then (Array.range (n * (C.T e).sz)).map (fun _ => (default : Value)) else (Array.range (n * (C.T e).sz)).map (fl.toArray[· % fl.toArray.size]!)).toList = (List.replicate n fl).flatten := by
    split
    ·rename_i a9
     have : n = 0 := by
      rcases Nat.mul_eq_zero.1 a9 with h | h
      ·exact h
      ·exact (e4 h).elim
     subst this
     simp
    ·exact pd
   generalize q9 : (if n * (C.T e).sz = 0 then (Array.range (n * (C.T e).sz)).map (fun _ => (default : Value)) else (Array.range (n * (C.T e).sz)).map (fl.toArray[· % fl.toArray.size]!)) = cur at run kH
   have k5 : (List.replicate n fl).flatten.length = n * (C.T e).sz := by simp [nH]
   have ic : cur.size = n * (C.T e).sz := by
    have : cur.size = cur.toList.length := by simp
    rw [this, kH, k5]
   have jU := h.vf (aU := w.alloc (.cells cur e)) (sz := (C.T e).sz) (cap := n) (xs := List.replicate n (C.T e).zero) (cur := cur) (e := e) (fr := (0, 0)) (Sn := fun _ => False) rfl rfl rfl rfl
    (fun o _ ⟨_, aj⟩ => absurd aj (Nat.not_lt_zero _)) (by simp) (by unfold maxLen; omega) ic (by intro d al; rw [List.eq_of_mem_replicate al]; exact oC)
    (by rw [kH, List.length_replicate, List.take_of_length_le (by rw [k5]; exact Nat.le_refl _)]; exact bm.replicate jm n _) (fun _ h => h.elim) (fun _ h => h.elim) (fun _ _ h => h.elim) (fun _ h => h.elim)
   rw [List.length_replicate] at jU
   exact ⟨_, _, F, S, run, jU.1, jU.2⟩
  ·cases he
 ·cases he
def mZ (C : ck) (T bO : TypeId) (x y : I) : Option I :=
 match (C.T T).k, (C.T bO).k, x, y with
 | .slice e, .int _, .bc, .int .i64 n => if 0 ≤ n ∧ (C.T e).ok = true ∧ (C.T e).zero.wd = (C.T e).sz ∧ (flat (C.T e).zero).isSome = true ∧ (C.T e).sz ≠ 0 ∧ (C.T e).bytes * n ≤ 140737488355328 ∧ n ≤ 9223372036854775807 then
   some (.aw (C.T e).sz (List.replicate n.toNat (C.T e).zero)) else none
 | _, _, _, _ => none
theorem Oc {P : Program} {T bO ty e : TypeId} {k : IntKind} {i : TypeInfo} {z : Value} (bh : P.underlying T = some (.slice e)) (hu : P.underlying bO = some (.int k)) (au : P.info? e = some i) (b7 : i.zero = some z)
  (n : Nat) (a9 : n ≠ 0) (ah : i.size ≠ 0) (bg : n ≤ 9223372036854775807) (ae : n * i.bytes ≤ 140737488355328) :
  (Builtin.append_ #[T, bO] ty #[.slice none 0 0, .int .i64 n]).run P w = .ok (.slice (some ⟨w.heap.size, 0, none⟩) n (grownCap w n 0 e))
   (w.drew.alloc (.cells (Builtin.zeroCells z.cells n ++ Builtin.zeroCells z.cells (grownCap w n 0 e - n)) e)) := by
 have tc : IntKind.i64.wrap (n : Int) = n := by rw [IntKind.wrap_i64]; omega
 have yJ : ¬ ((n : Int) < 0) := by omega
 have hmul : (n : Int) * (i.bytes : Int) = ((n * i.bytes : Nat) : Int) := by simp
 have fz : ¬ (281474976710656 < (n : Int) * (i.bytes : Int)) := by rw [hmul]; omega
 have jS : ¬ (281474976710656 < Builtin.nextslicecap n 0 * i.bytes) := by
  have : Builtin.nextslicecap n 0 = n := by unfold Builtin.nextslicecap; rw [if_pos (by omega)]
  rw [this]; omega
 have ta : ∀ k (w : World), (askRoom k).run P w = .ok () w := by
  intro k w
  unfold askRoom
  split <;> rfl
 have CM : ¬ (9223372036854775807 < (n : Int)) := by omega
 have CW : n * i.size ≠ 0 := Nat.mul_ne_zero a9 ah
 simp [Builtin.append_, run_underlying bh, run_underlying hu, jR au, qV au, asInt, asIntOf, tc, yJ, fz, jS, a9, Question.forced, ta, CM, s3 au b7, newRow, grownCap, Builtin.firstCells]
 intro kL; exact (CW kL).elim
theorem Od (bB : C.fq) (h : bW w0 F0 X F S s aF w) {T bO ty : TypeId} {x y : I} {jT jk : Value} (aC : aW w F s aF x jT (fun _ => False)) (bL : aW w F s aF y jk (fun _ => False)) (he : mZ C T bO x y = some av) :
  Good C w0 F0 X aF w (Builtin.append_ #[T, bO] ty #[jT, jk]) av s := by
 unfold mZ at he
 split at he
 ·rename_i e auH n aE GO
  have := pf aC; subst this
  have := pe bL; subst this
  obtain ⟨CP, d, CQ, a4, a_, a2, c1, c9, cl, cf⟩ := bB.info (g9 aE (by simp))
  rw [aE] at cf
  have := kN cf; subst this
  obtain ⟨auI, auJ, auK, yK, yL, yM, vp, auL, CX, GP⟩ := bB.info (g9 GO (by simp))
  rw [GO] at GP
  have := yr GP; subst this
  split at he
  ·rename_i q0
   obtain ⟨bg, nF, oC, pj, e4, GN, CT⟩ := q0
   simp only [Option.some.injEq] at he; subst he
   obtain ⟨i, CR, z, f1, f2, f3, f4, f5, f6, f7⟩ := bB.info nF
   obtain ⟨fl, k7⟩ := Option.isSome_iff_exists.1 pj
   have pk := f5 fl k7
   have jm : ∀ a1, aB w F (C.T e).zero fl a1 := fun a1 => (aB.flat _).1 _ fl a1 (Nat.le_refl _) k7
   have nH : fl.length = (C.T e).sz := by rw [aB.length _ _ _ (jm (fun _ => False)), oC]
   obtain ⟨n, rfl⟩ := Int.eq_ofNat_of_zero_le bg
   simp only [Int.toNat_natCast]
   by_cases a9 : n = 0
   ·subst a9
    have run : (Builtin.append_ #[T, bO] ty #[.slice none 0 0, .int .i64 ((0 : Nat) : Int)]).run C.P w = .ok (.slice none 0 0) w := by
     have tc : IntKind.i64.wrap 0 = 0 := by decide
     simp [Builtin.append_, run_underlying cl, run_underlying CX, jR f1, qV f1, asInt, asIntOf, tc]
    exact ⟨_, w, F, S, run, h, .inr ⟨rfl, rfl, fun _ => False, by simp only [cY, il]; rw [aB]; exact .inl ⟨rfl, _, rfl⟩, fun _ h => h.elim, fun _ h => h.elim, fun _ _ h => h.elim, fun _ h => h.elim⟩⟩
   ·have run := Oc (w := w) (ty := ty) cl CX f1 f4 n a9 (by rw [f2]; exact e4) (by omega) (by
     rw [f3]
     have : ((C.T e).bytes : Int) * (n : Int) = (((C.T e).bytes * n : Nat) : Int) := by simp
     rw [this] at GN
     rw [Nat.mul_comm]; omega)
    rw [pk] at run
    have vj := grownCap_ge w n 0 e
    have vk := grownCap_le_maxLen w n 0 e (by unfold maxLen; omega)
    have GQ : ∀ m, (Builtin.zeroCells fl.toArray m).toList = (List.replicate m fl).flatten := by
     intro m
     have := yI fl m
     unfold Builtin.zeroCells
     simpa [nH] using this
    have k5 : ∀ m, (List.replicate m fl).flatten.length = m * (C.T e).sz := by intro m; simp [nH]
    generalize q9 : Builtin.zeroCells fl.toArray n ++ Builtin.zeroCells fl.toArray (grownCap w n 0 e - n) = cur at run
    have kH : cur.toList = (List.replicate n fl).flatten ++ (List.replicate (grownCap w n 0 e - n) fl).flatten := by rw [← q9, Array.toList_append, GQ, GQ]
    have ic : cur.size = grownCap w n 0 e * (C.T e).sz := by
     have : cur.size = cur.toList.length := by simp
     rw [this, kH, List.length_append, k5, k5, ← Nat.add_mul]
     congr 1; omega
    have jU := h.vf (aU := w.drew.alloc (.cells cur e)) (sz := (C.T e).sz) (cap := grownCap w n 0 e) (xs := List.replicate n (C.T e).zero) (cur := cur) (e := e) (fr := (0, 0)) (Sn := fun _ => False) rfl rfl rfl rfl
     (fun o _ ⟨_, aj⟩ => absurd aj (Nat.not_lt_zero _)) (by simpa using vj) vk ic (by intro d al; rw [List.eq_of_mem_replicate al]; exact oC)
     (by rw [kH, List.length_replicate, List.take_left' (k5 n)]; exact bm.replicate jm n _) (fun _ h => h.elim) (fun _ h => h.elim) (fun _ _ h => h.elim) (fun _ h => h.elim)
    rw [List.length_replicate] at jU
    exact ⟨_, _, F, S, run, jU.1, jU.2⟩
  ·cases he
 ·cases he
def h8 (s : ar) (f : FuncId) (cs : List aI) : Option I := some (.fn f (cs.map (aS s)))
theorem yN {a : Act} (h : bW w0 F0 X F S s aF w) (eT : ∀ t, aF t = a.tmps.getD t undef) : ∀ (os : List Operand) (xs : List aI), os.map dY = xs.map some → eY w F s aF (xs.map (aS s)) (os.map a.eval)
 | [], [], _ => by simp only [List.map_nil]; rw [eY]
 | [], x :: xs, h => by simp at h
 | o :: os, [], h => by simp at h
 | o :: os, x :: xs, bD => by
   simp only [List.map_cons, List.cons.injEq] at bD ⊢
   rw [eY]
   exact ⟨_, _, rfl, (gm h eT bD.1).2, yN h eT os xs bD.2⟩
theorem GR : ∀ (vs : List Value) (k off : Nat) (A : Array Value) (l m r : List Value), A.toList = l ++ (m ++ r) → l.length = off + k → m.length = vs.length →
  ((vs.zipIdx k).foldl (fun cs (x : Value × Nat) => cs.setIfInBounds (off + x.2) x.1) A).toList = l ++ (vs ++ r)
 | [], k, off, A, l, m, r, iK, hl, hm => by
   have : m = [] := by simpa using hm
   subst this
   simpa using iK
 | v :: vs, k, off, A, l, m, r, iK, hl, hm => by
   obtain ⟨x, m, rfl⟩ : ∃ x hU, m = x :: hU := by
    cases m with
    | nil => simp at hm
    | cons x m => exact ⟨x, m, rfl⟩
   rw [List.zipIdx_cons, List.foldl_cons]
   have := GR vs (k + 1) off (A.setIfInBounds (off + k) v) (l ++ [v]) m r (by
    rw [Array.toList_setIfInBounds, iK, ← hl, List.set_append_right _ _ (Nat.le_refl _)]
    simp) (by simp; omega) (by simpa using hm)
   simpa using this
def ky (os : List (Option Nat)) (a : I) : I := os.foldl (fun a o => j_ o a) a
def ew (place : Nat → Option (Nat × Nat)) : ar → List I → List (Option Nat) → List (Nat × I) → Option (List I × ar)
 | s, eU, _, [] => some (eU, s)
 | s, eU, os, (k, a) :: r => match cS s (ky os a), place k, eU[k]? with
   | some (d, s1), some (off, n), some z => match d with
     | .tuple _ => none
     | d => if d.wd = n ∧ z.wd = n ∧ I.ez (eU.take k) = off then ew place s1 (eU.set k d) (os ++ [(ky os a).owner]) r else none
   | _, _, _ => none
def m0 (w : World) (F : Nat → Prop) (s : ar) (aF : Nat → Value) : List (Nat × I) → List (Nat × Value) → Prop
 | [], [] => True
 | (k, a) :: r, (df, v) :: iu => k = df ∧ a.plain = true ∧ aW w F s aF a v (fun _ => False) ∧ m0 w F s aF r iu
 | _, _ => False
theorem Oe (x : Nat) : ∀ d : I, d.plain = true → (cc x d).plain = true
 | .h y q, _ => by simp only [cc]; split <;> (try split) <;> rfl
 | .ax y q, _ => by simp only [cc]; split <;> rfl
 | .ae y q, _ => rfl
 | .fn f c, _ => by simp only [cc]; rfl
 | .hole, h => h
 | .bool _, h => h
 | .e7, h => h
 | .int _ _, h => h
 | .str _, h => h
 | .dC, h => h
 | .bc, h => h
 | .slice _, h => h
 | .aw _ _, h => h
 | .ref _, h => h
 | .a8 _, h => h
 | .agg _, h => h
 | .tuple _, h => h
theorem Of (o : Option Nat) (d : I) (h : d.plain = true) : (j_ o d).plain = true := by
 cases o with
 | none => exact h
 | some x => exact Oe x d h
theorem m0.cc {w : World} {F : Nat → Prop} {s s1 : ar} {aF : Nat → Value} {o : Option Nat} (ax : ∀ (bF : I) (gz : Value) (a1 : Nat → Prop), aW w F s aF bF gz a1 → aW w F s1 aF (j_ o bF) gz a1) :
  ∀ (r : List (Nat × I)) (iu : List (Nat × Value)), m0 w F s aF r iu → m0 w F s1 aF (r.map fun p => (p.1, j_ o p.2)) iu
 | [], [], _ => trivial
 | (k, a) :: r, (df, v) :: iu, h => by
   obtain ⟨ai, aj, aQ, bd⟩ := h
   exact ⟨ai, Of _ _ aj, ax _ _ _ aQ, m0.cc ax r iu bd⟩
 | [], _ :: _, h => h.elim
 | _ :: _, [], h => h.elim
theorem CY {place : Nat → Option (Nat × Nat)} : ∀ (ps : List (Nat × I)) (vs : List (Nat × Value)) (os : List (Option Nat)) (s : ar) (S : Nat → Nat → Prop) (eU : List I) (A : Array Value) (hE : Nat → Prop),
  bW w0 F0 X F S s aF w → m0 w F s aF (ps.map fun p => (p.1, ky os p.2)) vs → bm w F eU A.toList hE → (∀ b, hE b → b < w.heap.size) → (∀ b, hE b → ¬ F b) → (∀ u b, hE b → ¬ S u b) → (∀ b, hE b → X b ∨ w0.heap.size ≤ b) →
  ∀ ds s1, ew place s eU os ps = some (ds, s1) → ∃ lA ct gO, Instr.fill place A vs = some lA ∧ bW w0 F0 X F ct s1 aF w ∧ bm w F ds lA.toList gO ∧ (∀ b, gO b → b < w.heap.size) ∧ (∀ b, gO b → ¬ F b) ∧ (∀ u b, gO b → ¬ ct u b) ∧
    (∀ b, gO b → X b ∨ w0.heap.size ≤ b) ∧ ds.length = eU.length ∧ I.ez ds = I.ez eU ∧ (∀ n, (∀ d ∈ eU, d.wd = n) → ∀ d ∈ ds, d.wd = n)
 | [], [], os, s, S, eU, A, hE, h, _, ai, aj, aQ, bd, b3, ds, s1, he => by
   simp only [ew, Option.some.injEq, Prod.mk.injEq] at he
   obtain ⟨rfl, rfl⟩ := he
   exact ⟨A, S, hE, rfl, h, ai, aj, aQ, bd, b3, rfl, rfl, fun _ h => h⟩
 | (k, a) :: ps, (df, v) :: vs, os, s, S, eU, A, hE, h, ax, ai, aj, aQ, bd, b3, ds, s1, he => by
   obtain ⟨rfl, kz, ny, vq⟩ := ax
   simp only [ew] at he
   split at he
   ·rename_i d td off n z bh gq b7
    have key : ∀ d : I, (∀ az, d ≠ .tuple az) → cS s (ky os a) = some (d, td) → (if d.wd = n ∧ z.wd = n ∧ I.ez (eU.take k) = off then ew place td (eU.set k d) (os ++ [(ky os a).owner]) ps else none) = some (ds, s1) →
      ∃ lA ct gO, Instr.fill place A ((k, v) :: vs) = some lA ∧ bW w0 F0 X F ct s1 aF w ∧ bm w F ds lA.toList gO ∧ (∀ b, gO b → b < w.heap.size) ∧ (∀ b, gO b → ¬ F b) ∧ (∀ u b, gO b → ¬ ct u b) ∧
      (∀ b, gO b → X b ∨ w0.heap.size ≤ b) ∧ ds.length = eU.length ∧ I.ez ds = I.ez eU ∧ (∀ n, (∀ d ∈ eU, d.wd = n) → ∀ d ∈ ds, d.wd = n) := by
     intro d pc bh he
     split at he
     ·rename_i ay
      obtain ⟨mr, lQ, GS⟩ := ay
      obtain ⟨ct, hF, bf, bG, Sn, cC, eH, fJ, h7, iI, k6, vn, yF⟩ := pY h kz ny bh
      obtain ⟨cE, gj, cF, Sx, j7, iK, h3, gP, ht, h4, hf, lN⟩ := bm.pick eU _ _ k z ai b7
      have pd := yz bG pc
      have te := aB.length _ _ _ cC
      have GU := aB.length _ _ _ hf
      have p2 := lN w d (cY v) Sn (fun _ _ => rfl) (fun _ _ => rfl) cC (fun b Og Oh => by obtain ⟨u, hu⟩ := vn b Og; exact bd u b (gP b Oh) hu)
      have GV := GR (cY v) 0 off A cE gj cF iK (by rw [h3, GS]; rfl) (by rw [GU, te, mr, lQ])
      generalize vr : ((cY v).zipIdx 0).foldl (fun cs (x : Value × Nat) => cs.setIfInBounds (off + x.2) x.1) A = CZ at GV
      obtain ⟨lA, et, gO, fS, gG, hg, kt, lS, ch, nB, fm, C0, yO⟩ := CY (place := place) ps vs (os ++ [(ky os a).owner]) td ct (eU.set k d) CZ (fun b => Sx b ∨ Sn b) hF (by have := m0.cc yF _ _ vq; simpa [ky, List.foldl_append, Function.comp_def] using this) (by rw [GV]; exact p2)
       (by rintro b (ae | ae); exact aj b (gP b ae); exact eH b ae) (by rintro b (ae | ae); exact aQ b (gP b ae); exact fJ b ae)
       (by rintro u b (ae | ae); exact fun hu => bd u b (gP b ae) (k6 u b hu); exact h7 u b ae) (by rintro b (ae | ae); exact b3 b (gP b ae); exact iI b ae) ds s1 he
      refine ⟨lA, et, gO, ?_, gG, hg, kt, lS, ch, nB, by rw [fm]; simp, by rw [C0]; exact Ce _ _ _ _ b7 (by rw [mr, lQ]), ?_⟩
      ·have C1 : off + n ≤ A.size := by
        have : A.size = A.toList.length := by simp
        rw [this, iK]; simp [h3, GS, GU, lQ]
       simp only [Instr.fill, gq, pd, List.size_toArray, te, mr]
       have mS : ¬ (n ≠ n ∨ A.size < off + n) := by omega
       have Oi : (cY v).toArray.zipIdx.foldl (fun cs (x : Value × Nat) => cs.setIfInBounds (off + x.2) x.1) A = CZ := by
        rw [← vr, ← Array.foldl_toList]; simp
       simp only [ne_eq, not_true_eq_false, decide_false, Bool.false_or, decide_eq_true_eq, gt_iff_lt]
       rw [if_neg (by simp; omega)]
       rw [show (cY v).toArray.zipIdx.foldl (fun cs x => match x with | (c, j) => cs.setIfInBounds (off + j) c) A = CZ from Oi]
       exact fS
      ·intro C2 vt
       refine yO C2 (Cf vt ?_)
       rw [mr, ← lQ]; exact vt z (List.mem_of_getElem? b7)
     ·cases he
    split at he
    ·cases he
    ·rename_i pc
     exact key _ (fun az e => pc az e) bh he
   ·cases he
 | [], _ :: _, _, _, _, _, _, _, _, ax, _, _, _, _, _, _, _, _ => ax.elim
 | _ :: _, [], _, _, _, _, _, _, _, ax, _, _, _, _, _, _, _, _ => ax.elim
def fC (C : ck) (s : ar) (T : TypeId) (ps : List (Nat × I)) : Option (I × ar) :=
 match (C.T T).k, (C.T T).zero with
 | .struct az, .agg eU => if (flat (.agg eU)).isSome = true ∧ (∀ f ∈ az, (C.T f.1).ok = true) then
   (match ew (fun k => (az[k]?).map fun f => (f.2, (C.T f.1).sz)) s eU [] ps with
   | some (ds, s1) => some (.agg ds, s1)
   | none => none) else none
 | _, _ => none
def eD (C : ck) (s : ar) (T : TypeId) (n : Nat) (ps : List (Nat × I)) : Option (I × ar) :=
 match (C.T T).k with
 | .slice e => if (C.T e).ok = true ∧ (C.T e).zero.wd = (C.T e).sz ∧ (flat (C.T e).zero).isSome = true ∧ (C.T e).sz ≠ 0 ∧ n * (C.T e).sz ≤ 16777216 then
   (match ew (fun k => some (k * (C.T e).sz, (C.T e).sz)) s (List.replicate n (C.T e).zero) [] ps with
   | some (ds, s1) => some (.aw (C.T e).sz ds, s1)
   | none => none) else none
 | _ => none
theorem Oj (bB : C.fq) : ∀ (gs : List Field), (∀ g ∈ gs, (C.T g.type).ok = true) →
  gs.mapM (fun f => (C.P.info? f.type).map fun i => (f.offset, i.size)) = some (gs.map fun g => (g.offset, (C.T g.type).sz)) := by
 intro gs
 induction gs with
 | nil => intro _; simp
 | cons g gs ih =>
   intro b8
   obtain ⟨i, d, z, f1, f2, f3, f4, f5, f6, f7⟩ := bB.info (b8 g (by simp))
   have := ih (fun g hG => b8 g (by simp [hG]))
   simp [List.mapM_cons, f1, f2, this]
theorem Ok (bB : C.fq) (h : bW w0 F0 X F S s aF w) {T : TypeId} {ps : List (Nat × I)} {vs : List (Nat × Value)} (ax : m0 w F s aF ps vs) (he : fC C s T ps = some (av, s1)) :
  Good C w0 F0 X aF w (Instr.build T vs.toArray) av s1 := by
 unfold fC at he
 split at he
 ·rename_i az eU aE b7
  split at he
  ·rename_i ay
   obtain ⟨pj, Ol⟩ := ay
   split at he
   ·rename_i ds s2 k5
    simp only [Option.some.injEq, Prod.mk.injEq] at he
    obtain ⟨rfl, rfl⟩ := he
    obtain ⟨i, d, z, a4, a_, a2, c1, c9, cl, cf⟩ := bB.info (g9 aE (by simp))
    rw [aE] at cf
    obtain ⟨gs, rfl, GW⟩ := Cz cf
    obtain ⟨fl, k7⟩ := Option.isSome_iff_exists.1 pj
    have pk := c9 fl (by rw [b7]; exact k7)
    have jm : bm w F eU fl.toArray.toList (fun _ => False) := by
     have := (aB.flat (w := w) (F := F) _).1 (.agg eU) fl (fun _ => False) (Nat.le_refl _) k7
     rw [aB] at this
     simpa using this
    have eP : m0 w F s aF (ps.map fun p => (p.1, ky [] p.2)) vs := by simpa [ky] using ax
    obtain ⟨lA, ct, gO, fS, gG, hg, kt, lS, ch, nB, fm, C0, yO⟩ := CY ps vs [] s S eU fl.toArray (fun _ => False) h eP jm (fun _ h => h.elim) (fun _ h => h.elim) (fun _ _ h => h.elim) (fun _ h => h.elim) ds s2 k5
    have gq := Oj bB gs.toList (fun g b8 => Ol (g.type, g.offset) (by rw [← GW]; exact List.mem_map_of_mem b8))
    have Om : (fun (k : Nat) => (az[k]?).map fun (f : TypeId × Nat) => (f.2, (C.T f.1).sz)) = fun (k : Nat) => ((gs.toList.map fun g => (g.offset, (C.T g.type).sz)).toArray)[k]? := by
     funext k
     rw [← GW]
     simp only [List.getElem?_map, List.getElem?_toArray, Option.map_map]
     rfl
    rw [Om] at fS
    refine ⟨.agg lA, w, F, ct, run_build w T vs.toArray lA ?_, gG, .inr ⟨rfl, ⟨_, rfl⟩, gO, by simp only [cY, il]; rw [aB]; exact hg, kt, lS, ch, nB⟩⟩
    unfold Program.built
    simp only [a4, cl, c1, gq, pk]
    exact fS
   ·cases he
  ·cases he
 ·cases he
theorem On (bB : C.fq) (h : bW w0 F0 X F S s aF w) {T : TypeId} {n : Nat} {ps : List (Nat × I)} {vs : List (Nat × Value)} (ax : m0 w F s aF ps vs) (he : eD C s T n ps = some (av, s1)) :
  Good C w0 F0 X aF w (Instr.buildSlice T n vs.toArray) av s1 := by
 unfold eD at he
 split at he
 ·rename_i e aE
  split at he
  ·rename_i ay
   obtain ⟨nF, oC, pj, e4, auM⟩ := ay
   split at he
   ·rename_i ds s2 k5
    simp only [Option.some.injEq, Prod.mk.injEq] at he
    obtain ⟨rfl, rfl⟩ := he
    obtain ⟨CP, d, CQ, a4, a_, a2, c1, c9, cl, cf⟩ := bB.info (g9 aE (by simp))
    rw [aE] at cf
    have := kN cf; subst this
    obtain ⟨i, CR, z, f1, f2, f3, f4, f5, f6, f7⟩ := bB.info nF
    obtain ⟨fl, k7⟩ := Option.isSome_iff_exists.1 pj
    have pk := f5 fl k7
    have jm : ∀ a1, aB w F (C.T e).zero fl a1 := fun a1 => (aB.flat _).1 _ fl a1 (Nat.le_refl _) k7
    have nH : fl.length = (C.T e).sz := by rw [aB.length _ _ _ (jm (fun _ => False)), oC]
    generalize iK : ((Array.range (n * (C.T e).sz)).map ((if n * (C.T e).sz = 0 then #[] else fl.toArray)[· % (if n * (C.T e).sz = 0 then (#[] : Array Value) else fl.toArray).size]!)) = A
    have C1 : A.toList = (List.replicate n fl).flatten := by
     rw [← iK]
     by_cases a9 : n * (C.T e).sz = 0
     ·have : n = 0 := by
       rcases Nat.mul_eq_zero.1 a9 with h | h
       ·exact h
       ·exact (e4 h).elim
      subst this
      simp
     ·simp only [a9, if_false]
      have := yI fl n
      rw [nH] at this
      simpa [nH] using this
    have eP : m0 w F s aF (ps.map fun p => (p.1, ky [] p.2)) vs := by simpa [ky] using ax
    obtain ⟨lA, ct, gO, fS, gG, hg, kt, lS, ch, nB, fm, C0, yO⟩ := CY ps vs [] s S (List.replicate n (C.T e).zero) A (fun _ => False) h eP (by rw [C1]; exact bm.replicate jm n _) (fun _ h => h.elim) (fun _ h => h.elim) (fun _ _ h => h.elim) (fun _ h => h.elim) ds s2 k5
    have hlen : ds.length = n := by rw [fm]; simp
    have GX := yO (C.T e).sz (by intro d al; rw [List.eq_of_mem_replicate al]; exact oC)
    have Oo : lA.toList.length = n * (C.T e).sz := by rw [bm.q7 hg GX, hlen]
    have Oq : lA.size = n * (C.T e).sz := by rw [← Oo]; simp
    have auN : n ≤ 16777216 := by
     have : n * 1 ≤ n * (C.T e).sz := Nat.mul_le_mul_left _ (by omega)
     omega
    have jU := gG.vf (aU := w.alloc (.cells lA e)) (sz := (C.T e).sz) (cap := n) (xs := ds) (cur := lA) (e := e) (fr := (0, 0)) (Sn := gO) rfl rfl rfl rfl
     (fun o _ ⟨_, aj⟩ => absurd aj (Nat.not_lt_zero _)) (by omega) (by unfold maxLen; omega) Oq GX (by rw [hlen, List.take_of_length_le (by omega)]; exact hg) kt lS ch nB
    rw [hlen] at jU
    refine ⟨_, _, F, ct, ?_, jU.1, jU.2⟩
    by_cases a9 : n * (C.T e).sz = 0
    ·simp only [a9, if_true] at iK
     have tf : (Array.map (fun _ => (default : Value)) (Array.range 0)) = A := by
      have : n = 0 := by
       rcases Nat.mul_eq_zero.1 a9 with h | h
       ·exact h
       ·exact (e4 h).elim
      apply Array.ext'
      rw [C1, this]
      simp
     simp [Instr.buildSlice, run_underlying cl, jR f1, f2, a9, newRow]
     rw [tf, fS]
     simp
    ·simp only [a9, if_false] at iK
     have mS : ¬ (16777216 < n * (C.T e).sz) := by omega
     simp [Instr.buildSlice, run_underlying cl, jR f1, f2, a9, mS, s3 f1 f4, pk, newRow]
     have tf : (Array.map (fun x => fl[x % fl.length]?.getD default) (Array.range (n * (C.T e).sz))) = A := by
      rw [← iK]; simp
     rw [tf, fS]
     simp
   ·cases he
  ·cases he
 ·cases he
end
inductive ga where
 | ad (x : aI)
 | af (x : aI)
 | pick (c a b : aI)
 | eB (T : TypeId)
 | c2 (T : TypeId) (x : aI)
 | fC (T : TypeId) (ps : List (Nat × aI))
 | eD (T : TypeId) (n : Nat) (ps : List (Nat × aI))
 | aD (T : TypeId) (x : aI)
 | cx (T : TypeId) (x y : aI)
 | dN (x : aI)
 | aq (op : BinOp) (T : TypeId) (x y : aI)
 | un (op : UnOp) (x : aI)
 | fZ (A B : TypeId) (x : aI)
 | h8 (f : FuncId) (cs : List aI)
 | eV (T : TypeId) (l c : aI)
 | fB (T : TypeId) (x : aI) (dg au : Option aI)
 | aP (T : TypeId) (x : aI) (k : Nat)
 | bJ (T : TypeId) (x i : aI)
 | idx (T : TypeId) (x i : aI)
 | ex (x : aI) (k : Nat)
 | call (f : aI) (args : List aI)
 | len (T : TypeId) (x : aI)
 | app (T bO : TypeId) (x y : aI)
 | shr (bN : ga)
 | mZ (T bO : TypeId) (x y : aI)
 | cap (T : TypeId) (x : aI)
 | oF (hD : Bool) (x y : aI)
 | bad
 | lT (f : aI) (args : List aI) (u x : Nat)
 | jX (f : aI) (args : List aI) (us : List Nat)
 | ju (T : TypeId) (x : aI)
def ga.base : ga → ga
 | .shr bN => bN
 | .mZ T bO x y => .app T bO x y
 | .lT f args _ _ => .call f args
 | .jX f args _ => .call f args
 | .ju T x => .c2 T x
 | bN => bN
def nI : List Operand → Option (List aI)
 | [] => some []
 | o :: os => match dY o, nI os with
   | some x, some xs => some (x :: xs)
   | _, _ => none
def tg : List (Nat × Operand) → Option (List (Nat × aI))
 | [] => some []
 | (k, o) :: os => match dY o, tg os with
   | some x, some xs => some ((k, x) :: xs)
   | _, _ => none
def vu : Option Operand → Option (Option aI)
 | none => some none
 | some o => (dY o).map some
def dj : Op → Option ga
 | .move x => (dY x).map .ad
 | .assign x => (dY x).map .af
 | .pick c a b => match dY c, dY a, dY b with
   | some c, some a, some b => some (.pick c a b)
   | _, _, _ => none
 | .alloc T => some (.eB T)
 | .box T x => (dY x).map (.c2 T)
 | .build T ps => (tg ps.toList).map (.fC T)
 | .buildSlice T n ps => (tg ps.toList).map (.eD T n)
 | .load T x => (dY x).map (.aD T)
 | .store T x y => match dY x, dY y with
   | some x, some y => some (.cx T x y)
   | _, _ => none
 | .nilCheck x => (dY x).map .dN
 | .binOp op T x y _ => match dY x, dY y with
   | some x, some y => some (.aq op T x y)
   | _, _ => none
 | .unOp op _ x => (dY x).map (.un op)
 | .convert A B x => (dY x).map (.fZ A B)
 | .makeFunc (.func f) first cs => if first.isEmpty then (nI cs.toList).map (.h8 f) else none
 | .makeSlice T l c => match dY l, dY c with
   | some l, some c => some (.eV T l c)
   | _, _ => none
 | .slice T x dg au none => match dY x, vu dg, vu au with
   | some x, some dg, some au => some (.fB T x dg au)
   | _, _, _ => none
 | .fieldAddr T x k => (dY x).map fun x => .aP T x k
 | .indexAddr T x i => match dY x, dY i with
   | some x, some i => some (.bJ T x i)
   | _, _ => none
 | .index T x i => match dY x, dY i with
   | some x, some i => some (.idx T x i)
   | _, _ => none
 | .extract x k => (dY x).map fun x => .ex x k
 | .call c => match c.callee with
   | .value f => match dY f, nI c.args.toList with
     | some f, some xs => some (.call f xs)
     | _, _ => none
   | .builtin .len => match c.args.toList, c.argTypes.toList with
     | [x], [T] => (dY x).map (.len T)
     | _, _ => none
   | .builtin .cap => match c.args.toList, c.argTypes.toList with
     | [x], [T] => (dY x).map (.cap T)
     | _, _ => none
   | .builtin .min => match c.args.toList with
     | [x, y] => match dY x, dY y with
       | some x, some y => some (.oF false x y)
       | _, _ => none
     | _ => none
   | .builtin .max => match c.args.toList with
     | [x, y] => match dY x, dY y with
       | some x, some y => some (.oF true x y)
       | _, _ => none
     | _ => none
   | .builtin .append => match c.args.toList, c.argTypes.toList with
     | [x, y], [T, bO] => match dY x, dY y with
       | some x, some y => some (.app T bO x y)
       | _, _ => none
     | _, _ => none
   | _ => none
 | _ => none
def oF (hD : Bool) : I → I → Option I
 | .str a, .str b => some (.str (ye hD a b))
 | _, _ => none
def bX (C : ck) (s : ar) : ga → Option (I × ar)
 | .ad x => some (aS s x, s)
 | .af x => match aS s x with
   | .h y q => cS s (.h y q)
   | d => some (d, s)
 | .pick c a b => match aS s c with
   | .bool fY => some (if fY then aS s a else aS s b, s)
   | _ => none
 | .eB T => (eB C T).map fun d => (d, s)
 | .c2 _ x => c2 s (aS s x)
 | .fC T ps => fC C s T (ps.map fun p => (p.1, aS s p.2))
 | .eD T n ps => eD C s T n (ps.map fun p => (p.1, aS s p.2))
 | .aD T x => (aD C s T (aS s x)).map fun d => (d, s)
 | .cx T x y => (cx C s T (aS s x) (aS s y)).map fun s1 => (.hole, s1)
 | .dN x => (dN s (aS s x)).map fun d => (d, s)
 | .aq op T x y => (aq C s op T (aS s x) (aS s y)).map fun d => (d, s)
 | .un op x => (un op (aS s x)).map fun d => (d, s)
 | .fZ A B x => (fZ C s A B (aS s x)).map fun d => (d, s)
 | .h8 f cs => some (.fn f (cs.map (aS s)), s)
 | .eV T l c => (eV C T (aS s l) (aS s c)).map fun d => (d, s)
 | .fB T x dg au => fB C s T (aS s x) (dg.map (aS s)) (au.map (aS s))
 | .aP T x k => (aP C s T (aS s x) k).map fun d => (d, s)
 | .bJ T x i => (bJ C s T (aS s x) (aS s i)).map fun d => (d, s)
 | .idx T x i => (idx C T (aS s x) (aS s i)).map fun d => (d, s)
 | .ex x k => (ex s (aS s x) k).map fun d => (d, s)
 | .call _ _ => none
 | .len T x => (lu C s T (aS s x)).map fun d => (d, s)
 | .app T bO x y => lx C s T bO (aS s x) (aS s y)
 | .shr _ => none
 | .lT _ _ _ _ => none
 | .jX _ _ _ => none
 | .ju _ x => ju s (aS s x)
 | .mZ T bO x y => (mZ C T bO (aS s x) (aS s y)).map fun d => (d, s)
 | .cap T x => match (C.T T).k, aS s x with
   | .slice _, .bc => some (.int .i64 0, s)
   | _, _ => none
 | .oF hD x y => (oF hD (aS s x) (aS s y)).map fun d => (d, s)
 | .bad => none
section
variable {C : ck} {w0 w : World} {F0 X F : Nat → Prop} {S : Nat → Nat → Prop} {s s1 : ar} {a : Act} {av : I}
theorem q_ : ∀ {os : List Operand} {xs : List aI}, nI os = some xs → os.map dY = xs.map some
 | [], xs, h => by simp [nI] at h; subst h; rfl
 | o :: os, xs, h => by
   simp only [nI] at h
   split at h
   ·rename_i x GY ai aj
    simp at h; subst h
    simp [ai, q_ aj]
   ·cases h
theorem C3 {aF : Nat → Value} (h : bW w0 F0 X F S s aF w) (eT : ∀ t, aF t = a.tmps.getD t undef) : ∀ {ps : List (Nat × Operand)} {xs : List (Nat × aI)}, tg ps = some xs →
  m0 w F s aF (xs.map fun p => (p.1, aS s p.2)) (ps.map fun p => (p.1, a.eval p.2))
 | [], xs, h => by simp [tg] at h; subst h; trivial
 | (k, o) :: ps, xs, bD => by
   simp only [tg] at bD
   split at bD
   ·rename_i x GY ai aj
    simp at bD; subst bD
    obtain ⟨bf, bG⟩ := gm h eT ai
    exact ⟨rfl, bf, bG, C3 h eT aj⟩
   ·cases bD
def Next (C : ck) (w0 : World) (F0 X : Nat → Prop) (aF : Nat → Value) (w : World) (m : Sem Go.Next) (av : I) (s1 : ar) : Prop :=
 ∃ r aU v b0 a1, m.run C.P w = .ok r aU ∧ (r = .value v ∨ r = .skip ∧ v = undef) ∧ bW w0 F0 X b0 a1 s1 aF aU ∧ kM w0 X b0 a1 s1 aF aU av v
theorem Good.next {aF : Nat → Value} {m : Sem Value} (h : Good C w0 F0 X aF w m av s1) : Next C w0 F0 X aF w (do pure (.value (← m))) av s1 := by
 obtain ⟨v, aU, b0, a1, ai, aj, aQ⟩ := h
 exact ⟨.value v, aU, v, b0, a1, by simp [ai], .inl rfl, aj, aQ⟩
theorem GZ {aF : Nat → Value} (h : bW w0 F0 X F S s aF w) {hD : Bool} {x y : I} {jT jk : Value} {m : Sem Go.Next} (ai : aW w F s aF x jT (fun _ => False)) (aj : aW w F s aF y jk (fun _ => False))
  (he : (oF hD x y).map (fun d => (d, s)) = some (av, s1)) (hm : m = (do pure (.value (← if hD then Builtin.max2 jT jk else Builtin.min2 jT jk)))) : Next C w0 F0 X aF w m av s1 := by
 simp only [Option.map_eq_some_iff, Prod.mk.injEq] at he
 obtain ⟨d, al, rfl, rfl⟩ := he
 unfold oF at al
 split at al
 ·rename_i a b
  simp only [Option.some.injEq] at al; subst al
  have a4 := oy ai
  have a_ := oy aj
  subst a4 a_
  subst hm
  refine ⟨.value (.string ⟨⟨ye hD a b⟩⟩), w, _, F, S, ?_, .inl rfl, h, .inl ⟨rfl, nC _⟩⟩
  cases hD
  ·simp only [Builtin.min2, Op.stringOp, CG, ye, Bool.false_eq_true, if_false]
   cases ae : (Op.bytesLess a b || a == b) <;> simp [asBool]
  ·simp only [Builtin.max2, Op.stringOp, CG, ye, if_true]
   cases ae : Op.bytesLess a b <;> simp [asBool]
 ·cases al
theorem G0 (bB : C.fq) {aF : Nat → Value} (h : bW w0 F0 X F S s aF w) (eT : ∀ t, aF t = a.tmps.getD t undef) {o : Oper} {bN : ga} (ah : dj o.op = some bN) (he : bX C s bN = some (av, s1)) :
  Next C w0 F0 X aF w (execOp a.eval o) av s1 := by
 obtain ⟨dst, op, ty, pos, after, guard⟩ := o
 simp only at ah
 cases op with
 | move x =>
   simp only [dj, Option.map_eq_some_iff] at ah
   obtain ⟨cy, aC, rfl⟩ := ah
   obtain ⟨bf, bG⟩ := gm h eT aC
   simp only [bX, Option.some.injEq, Prod.mk.injEq] at he
   obtain ⟨rfl, rfl⟩ := he
   exact ⟨_, w, _, F, S, rfl, .inl rfl, h, .inl ⟨bf, bG⟩⟩
 | assign x =>
   simp only [dj, Option.map_eq_some_iff] at ah
   obtain ⟨cy, aC, rfl⟩ := ah
   obtain ⟨bf, bG⟩ := gm h eT aC
   simp only [bX] at he
   split at he
   ·rename_i y q bL
    rw [bL] at bf bG
    obtain ⟨ct, k0, b5, cu, Sn, fD, eO, gr, dE, jW, _⟩ := pY h bf bG he
    exact ⟨_, w, _, F, ct, rfl, .inl rfl, k0, .inr ⟨b5, cu, Sn, fD, eO, gr, dE, jW⟩⟩
   ·simp only [Option.some.injEq, Prod.mk.injEq] at he
    obtain ⟨rfl, rfl⟩ := he
    exact ⟨_, w, _, F, S, rfl, .inl rfl, h, .inl ⟨bf, bG⟩⟩
 | pick c x y =>
   simp only [dj] at ah
   split at ah
   ·rename_i vv cy jP ay aC bL
    simp only [Option.some.injEq] at ah; subst ah
    simp only [bX] at he
    split at he
    ·rename_i b ae
     simp only [Option.some.injEq, Prod.mk.injEq] at he
     obtain ⟨rfl, rfl⟩ := he
     have q9 := (gm h eT ay).2
     rw [ae] at q9
     have q9 := q1 q9
     obtain ⟨ag, ao⟩ := gm h eT aC
     obtain ⟨fE, g_⟩ := gm h eT bL
     refine ⟨.value (if b then a.eval x else a.eval y), w, _, F, S, ?_, .inl rfl, h, .inl ?_⟩
     ·simp [execOp, q9, asBool]
     ·cases b
      ·exact ⟨fE, g_⟩
      ·exact ⟨ag, ao⟩
    ·cases he
   ·cases ah
 | alloc T =>
   simp only [dj, Option.some.injEq] at ah; subst ah
   simp only [bX, Option.map_eq_some_iff, Prod.mk.injEq] at he
   obtain ⟨d, al, rfl, rfl⟩ := he
   exact (Nw bB h al).next
 | box T x =>
   simp only [dj, Option.map_eq_some_iff] at ah
   obtain ⟨cy, aC, rfl⟩ := ah
   obtain ⟨bf, bG⟩ := gm h eT aC
   exact (Ny h bf bG he).next
 | build T ps =>
   simp only [dj, Option.map_eq_some_iff] at ah
   obtain ⟨Ot, ax, rfl⟩ := ah
   obtain ⟨ps⟩ := ps
   have := (Ok bB h (C3 h eT ax) he).next
   simpa [execOp] using this
 | buildSlice T n ps =>
   simp only [dj, Option.map_eq_some_iff] at ah
   obtain ⟨Ot, ax, rfl⟩ := ah
   obtain ⟨ps⟩ := ps
   have := (On bB h (C3 h eT ax) he).next
   simpa [execOp] using this
 | load T x =>
   simp only [dj, Option.map_eq_some_iff] at ah
   obtain ⟨cy, aC, rfl⟩ := ah
   obtain ⟨bf, bG⟩ := gm h eT aC
   simp only [bX, Option.map_eq_some_iff, Prod.mk.injEq] at he
   obtain ⟨d, al, rfl, rfl⟩ := he
   exact (Nr bB h bG al).next
 | store T x y =>
   simp only [dj] at ah
   split at ah
   ·rename_i cy jP aC bL
    simp only [Option.some.injEq] at ah; subst ah
    simp only [bX, Option.map_eq_some_iff, Prod.mk.injEq] at he
    obtain ⟨s2, al, rfl, rfl⟩ := he
    obtain ⟨aU, a1, ai, aj⟩ := Nu bB h (gm h eT aC).2 (gm h eT bL).1 (gm h eT bL).2 al
    exact ⟨.skip, aU, undef, F, a1, by simp [execOp, ai], .inr ⟨rfl, rfl⟩, aj, .inl ⟨rfl, by rw [aW]; trivial⟩⟩
   ·cases ah
 | nilCheck x =>
   simp only [dj, Option.map_eq_some_iff] at ah
   obtain ⟨cy, aC, rfl⟩ := ah
   obtain ⟨bf, bG⟩ := gm h eT aC
   simp only [bX, Option.map_eq_some_iff, Prod.mk.injEq] at he
   obtain ⟨d, al, rfl, rfl⟩ := he
   obtain ⟨rfl, ax, a3⟩ := NI h bG al
   refine ⟨.value (a.eval x), w, _, F, S, ?_, .inl rfl, h, .inl ⟨ax, bG⟩⟩
   rcases a3 with ⟨b, ae⟩ | ⟨f, c, ae⟩ <;> simp [execOp, ae]
 | binOp op T x y auO =>
   simp only [dj] at ah
   split at ah
   ·rename_i cy jP aC bL
    simp only [Option.some.injEq] at ah; subst ah
    simp only [bX, Option.map_eq_some_iff, Prod.mk.injEq] at he
    obtain ⟨d, al, rfl, rfl⟩ := he
    exact (NC bB h x y (gm h eT aC).2 (gm h eT bL).2 al).next
   ·cases ah
 | unOp op T x =>
   simp only [dj, Option.map_eq_some_iff] at ah
   obtain ⟨cy, aC, rfl⟩ := ah
   simp only [bX, Option.map_eq_some_iff, Prod.mk.injEq] at he
   obtain ⟨d, al, rfl, rfl⟩ := he
   exact (NG h (gm h eT aC).2 al).next
 | convert A B x =>
   simp only [dj, Option.map_eq_some_iff] at ah
   obtain ⟨cy, aC, rfl⟩ := ah
   simp only [bX, Option.map_eq_some_iff, Prod.mk.injEq] at he
   obtain ⟨d, al, rfl, rfl⟩ := he
   exact (NQ bB h (gm h eT aC).2 al).next
 | makeFunc fn first cs =>
   cases fn with
   | func f =>
     simp only [dj] at ah
     split at ah
     ·rename_i C4
      simp only [Option.map_eq_some_iff] at ah
      obtain ⟨m1, ic, rfl⟩ := ah
      simp only [bX, Option.some.injEq, Prod.mk.injEq] at he
      obtain ⟨rfl, rfl⟩ := he
      have C5 : first = #[] := by simpa using C4
      subst C5
      refine ⟨_, w, _, F, S, rfl, .inl rfl, h, .inl ⟨rfl, ?_⟩⟩
      rw [aW]
      refine ⟨cs.map a.eval, by simp, ?_⟩
      simpa using yN h eT _ _ (q_ ic)
     ·cases ah
   | _ => simp [dj] at ah
 | makeSlice T l c =>
   simp only [dj] at ah
   split at ah
   ·rename_i cy jP aC bL
    simp only [Option.some.injEq] at ah; subst ah
    simp only [bX, Option.map_eq_some_iff, Prod.mk.injEq] at he
    obtain ⟨d, al, rfl, rfl⟩ := he
    exact (Ob bB h (gm h eT aC).2 (gm h eT bL).2 al).next
   ·cases ah
 | slice T x dg au hD =>
   cases hD with
   | some m => simp [dj] at ah
   | none =>
     simp only [dj] at ah
     split at ah
     ·rename_i cy auP G1 aC mU mV
      simp only [Option.some.injEq] at ah; subst ah
      obtain ⟨bf, bG⟩ := gm h eT aC
      have opt : ∀ {o : Option Operand} {mu : Option aI}, vu o = some mu → pg w F s aF (mu.map (aS s)) (o.map a.eval) := by
       intro o mu cm
       cases o with
       | none => simp [vu] at cm; subst cm; trivial
       | some o =>
         simp only [vu, Option.map_eq_some_iff] at cm
         obtain ⟨x, aC, rfl⟩ := cm
         exact (gm h eT aC).2
      exact (NT bB h bf bG (opt mU) (opt mV) he).next
     ·cases ah
 | fieldAddr T x k =>
   simp only [dj, Option.map_eq_some_iff] at ah
   obtain ⟨cy, aC, rfl⟩ := ah
   obtain ⟨bf, bG⟩ := gm h eT aC
   simp only [bX, Option.map_eq_some_iff, Prod.mk.injEq] at he
   obtain ⟨d, al, rfl, rfl⟩ := he
   exact (Nj bB h bf bG al).next
 | indexAddr T x i =>
   simp only [dj] at ah
   split at ah
   ·rename_i cy jP aC bL
    simp only [Option.some.injEq] at ah; subst ah
    simp only [bX, Option.map_eq_some_iff, Prod.mk.injEq] at he
    obtain ⟨d, al, rfl, rfl⟩ := he
    exact (Nk bB h (gm h eT aC).2 (gm h eT bL).2 al).next
   ·cases ah
 | index T x i =>
   simp only [dj] at ah
   split at ah
   ·rename_i cy jP aC bL
    simp only [Option.some.injEq] at ah; subst ah
    simp only [bX, Option.map_eq_some_iff, Prod.mk.injEq] at he
    obtain ⟨d, al, rfl, rfl⟩ := he
    exact (NN bB h (gm h eT aC).2 (gm h eT bL).2 al).next
   ·cases ah
 | extract x k =>
   simp only [dj, Option.map_eq_some_iff] at ah
   obtain ⟨cy, aC, rfl⟩ := ah
   simp only [bX, Option.map_eq_some_iff, Prod.mk.injEq] at he
   obtain ⟨d, al, rfl, rfl⟩ := he
   exact (NL h (gm h eT aC).2 al).next
 | call c =>
   obtain ⟨callee, args, argTypes⟩ := c
   simp only [dj] at ah
   split at ah
   ·split at ah
    ·simp only [Option.some.injEq] at ah; subst ah
     simp [bX] at he
    ·cases ah
   ·split at ah
    ·rename_i x T lU ra
     simp only [Option.map_eq_some_iff] at ah
     obtain ⟨cy, aC, rfl⟩ := ah
     simp only [bX, Option.map_eq_some_iff, Prod.mk.injEq] at he
     obtain ⟨d, al, rfl, rfl⟩ := he
     have := (NO (ty := ty) bB h (gm h eT aC).2 al).next
     have a4 : args = #[x] := by apply Array.ext'; exact lU
     have a_ : argTypes = #[T] := by apply Array.ext'; exact ra
     subst a4 a_
     simpa [execOp, resolve, invoke, builtin] using this
    ·cases ah
   ·split at ah
    ·rename_i x T lU ra
     simp only [Option.map_eq_some_iff] at ah
     obtain ⟨cy, aC, rfl⟩ := ah
     simp only [bX] at he
     split at he
     ·rename_i e aE Ou
      simp only [Option.some.injEq, Prod.mk.injEq] at he
      obtain ⟨rfl, rfl⟩ := he
      have a3 := (gm h eT aC).2
      rw [Ou] at a3
      have := pf a3
      obtain ⟨i, d, z, a4, a_, a2, c1, c9, cl, cf⟩ := bB.info (g9 aE (by simp))
      rw [aE] at cf
      have al := kN cf; subst al
      have Ov : args = #[x] := by apply Array.ext'; exact lU
      have Ow : argTypes = #[T] := by apply Array.ext'; exact ra
      subst Ov Ow
      have a7 : (Builtin.cap_ #[T] ty #[a.eval x]).run C.P w = .ok (.int .i64 0) w := by
       rw [this]; simp [Builtin.cap_, run_underlying cl, goInt]
      have := (Good.same (av := .int .i64 0) h a7 rfl (of_int _ _)).next
      simpa [execOp, resolve, invoke, builtin] using this
     ·cases he
    ·cases ah
   ·split at ah
    ·rename_i x y lU
     split at ah
     ·rename_i cy jP aC bL
      simp only [Option.some.injEq] at ah; subst ah
      have a4 : args = #[x, y] := by apply Array.ext'; exact lU
      subst a4
      exact GZ h (gm h eT aC).2 (gm h eT bL).2 he (by simp [execOp, resolve, invoke, builtin, Builtin.min_])
     ·cases ah
    ·cases ah
   ·split at ah
    ·rename_i x y lU
     split at ah
     ·rename_i cy jP aC bL
      simp only [Option.some.injEq] at ah; subst ah
      have a4 : args = #[x, y] := by apply Array.ext'; exact lU
      subst a4
      exact GZ h (gm h eT aC).2 (gm h eT bL).2 he (by simp [execOp, resolve, invoke, builtin, Builtin.max_])
     ·cases ah
    ·cases ah
   ·split at ah
    ·rename_i x y T bO lU ra
     split at ah
     ·rename_i cy jP aC bL
      simp only [Option.some.injEq] at ah; subst ah
      have := (N5 (ty := ty) bB h (gm h eT aC).2 (gm h eT bL).2 he).next
      have a4 : args = #[x, y] := by apply Array.ext'; exact lU
      have a_ : argTypes = #[T, bO] := by apply Array.ext'; exact ra
      subst a4 a_
      simpa [execOp, resolve, invoke, builtin] using this
     ·cases ah
    ·cases ah
   ·cases ah
 | _ => simp [dj] at ah
end
mutual
def I.ah : I → List Nat
 | .h x _ => [x]
 | .ax x _ => [x]
 | .ae x _ => [x]
 | .fn _ cap => I.ea cap
 | _ => []
def I.ea : List I → List Nat
 | [] => []
 | d :: ds => d.ah ++ I.ea ds
end
inductive oG where
 | no
 | cc
 | cO
structure gQ where
 k : oG
 x : Nat
 d : I
def oG.app (k : oG) (x : Nat) (a : I) : I := match k with
 | .no => a
 | .cc => dk.cc x a
 | .cO => dk.cO x a
def gQ.at (m : gQ) (u : Nat) (a : I) : I := if u = m.x then m.d else m.k.app m.x a
def jv : List gQ → Nat → I → I
 | [], _, a => a
 | m :: ms, u, a => jv ms u (m.at u a)
def dw (ms : List gQ) (s : ar) : ar := fun u => jv ms u (s u)
theorem G2 : ∀ (ms kA : List gQ) (u : Nat) (a : I), jv (ms ++ kA) u a = jv kA u (jv ms u a)
 | [], _, _, _ => rfl
 | m :: ms, kA, u, a => by simp only [List.cons_append, jv]; exact G2 ms kA u _
theorem k8 (ms kA : List gQ) (s : ar) : dw (ms ++ kA) s = dw kA (dw ms s) := by
 funext u; simp [dw, G2]
theorem Ox {ms : List gQ} {s aA : ar} {u : Nat} (h : aA u = s u) : dw ms aA u = dw ms s u := by simp [dw, h]
theorem vw (s : ar) (x : Nat) (d : I) : dt (iG x s) x d = dw [⟨.cc, x, d⟩] s := by
 funext u; simp only [dw, jv, gQ.at, dt, iG, oG.app]
theorem G3 (s : ar) (x : Nat) (d : I) : dt (lo x s) x d = dw [⟨.cO, x, d⟩] s := by
 funext u; simp only [dw, jv, gQ.at, dt, lo, oG.app]
theorem C6 (s : ar) (x : Nat) (d : I) : dt s x d = dw [⟨.no, x, d⟩] s := by
 funext u; simp only [dw, jv, gQ.at, dt, oG.app]
mutual
theorem vx {x : Nat} : ∀ a : I, x ∉ a.ah → cc x a = a
 | .h y q, h => by
   simp only [I.ah, List.mem_singleton] at h
   simp only [cc]; rw [if_neg (fun e => h e.symm)]
 | .ax y q, h => by
   simp only [I.ah, List.mem_singleton] at h
   simp only [cc]; rw [if_neg (fun e => h e.symm)]
 | .ae y q, h => rfl
 | .fn f cap, h => by simp only [cc]; rw [G4 cap (by simpa [I.ah] using h)]
 | .hole, _ => rfl
 | .bool _, _ => rfl
 | .e7, _ => rfl
 | .int _ _, _ => rfl
 | .str _, _ => rfl
 | .dC, _ => rfl
 | .bc, _ => rfl
 | .slice _, _ => rfl
 | .aw _ _, _ => rfl
 | .ref _, _ => rfl
 | .a8 _, _ => rfl
 | .agg _, _ => rfl
 | .tuple _, _ => rfl
theorem G4 {x : Nat} : ∀ ds : List I, x ∉ I.ea ds → ir x ds = ds
 | [], _ => rfl
 | d :: ds, h => by
   simp only [I.ea, List.mem_append, not_or] at h
   simp only [ir]; rw [vx d h.1, G4 ds h.2]
end
mutual
theorem C7 {x : Nat} : ∀ a : I, x ∉ a.ah → cO x a = a
 | .h y q, h => by
   simp only [I.ah, List.mem_singleton] at h
   simp only [cO]; rw [if_neg (fun e => h e.symm)]
 | .ax y q, h => by
   simp only [I.ah, List.mem_singleton] at h
   simp only [cO]; rw [if_neg (fun e => h e.symm)]
 | .ae y q, h => by
   simp only [I.ah, List.mem_singleton] at h
   simp only [cO]; rw [if_neg (fun e => h e.symm)]
 | .fn f cap, h => by simp only [cO]; rw [G5 cap (by simpa [I.ah] using h)]
 | .hole, _ => rfl
 | .bool _, _ => rfl
 | .e7, _ => rfl
 | .int _ _, _ => rfl
 | .str _, _ => rfl
 | .dC, _ => rfl
 | .bc, _ => rfl
 | .slice _, _ => rfl
 | .aw _ _, _ => rfl
 | .ref _, _ => rfl
 | .a8 _, _ => rfl
 | .agg _, _ => rfl
 | .tuple _, _ => rfl
theorem G5 {x : Nat} : ∀ ds : List I, x ∉ I.ea ds → iU x ds = ds
 | [], _ => rfl
 | d :: ds, h => by
   simp only [I.ea, List.mem_append, not_or] at h
   simp only [iU]; rw [C7 d h.1, G5 ds h.2]
end
theorem vy {k : oG} {x : Nat} {a : I} (h : k = .no ∨ x ∉ a.ah) : k.app x a = a := by
 cases k with
 | no => rfl
 | cc => exact vx a (by simpa using h)
 | cO => exact C7 a (by simpa using h)
mutual
theorem G6 (x y : Nat) : ∀ a : I, cc x (cc y a) = cc y (cc x a)
 | .h z q => by simp only [cc]; by_cases ai : z = x <;> by_cases aj : z = y <;> by_cases aQ : q = [] <;> simp [ai, aj, aQ, cc] <;> (subst_vars; simp_all [cc])
 | .ax z q => by simp only [cc]; by_cases ai : z = x <;> by_cases aj : z = y <;> simp [ai, aj, cc] <;> (subst_vars; simp_all [cc])
 | .ae z q => rfl
 | .fn f cap => by simp only [cc]; rw [G7 x y cap]
 | .hole => rfl
 | .bool _ => rfl
 | .e7 => rfl
 | .int _ _ => rfl
 | .str _ => rfl
 | .dC => rfl
 | .bc => rfl
 | .slice _ => rfl
 | .aw _ _ => rfl
 | .ref _ => rfl
 | .a8 _ => rfl
 | .agg _ => rfl
 | .tuple _ => rfl
theorem G7 (x y : Nat) : ∀ ds : List I, ir x (ir y ds) = ir y (ir x ds)
 | [] => rfl
 | d :: ds => by simp only [ir]; rw [G6 x y d, G7 x y ds]
end
mutual
theorem G8 (x y : Nat) : ∀ a : I, cO x (cO y a) = cO y (cO x a)
 | .h z q => by simp only [cO]; by_cases ai : z = x <;> by_cases aj : z = y <;> simp [ai, aj, cO] <;> (subst_vars; simp_all [cO])
 | .ax z q => by simp only [cO]; by_cases ai : z = x <;> by_cases aj : z = y <;> simp [ai, aj, cO] <;> (subst_vars; simp_all [cO])
 | .ae z q => by simp only [cO]; by_cases ai : z = x <;> by_cases aj : z = y <;> simp [ai, aj, cO] <;> (subst_vars; simp_all [cO])
 | .fn f cap => by simp only [cO]; rw [G9 x y cap]
 | .hole => rfl
 | .bool _ => rfl
 | .e7 => rfl
 | .int _ _ => rfl
 | .str _ => rfl
 | .dC => rfl
 | .bc => rfl
 | .slice _ => rfl
 | .aw _ _ => rfl
 | .ref _ => rfl
 | .a8 _ => rfl
 | .agg _ => rfl
 | .tuple _ => rfl
theorem G9 (x y : Nat) : ∀ ds : List I, iU x (iU y ds) = iU y (iU x ds)
 | [] => rfl
 | d :: ds => by simp only [iU]; rw [G8 x y d, G9 x y ds]
end
mutual
theorem C8 (x y : Nat) : ∀ a : I, cc x (cO y a) = cO y (cc x a)
 | .h z q => by simp only [cO, cc]; by_cases ai : z = x <;> by_cases aj : z = y <;> by_cases aQ : q = [] <;> simp [ai, aj, aQ, cO, cc] <;> (subst_vars; simp_all [cO, cc])
 | .ax z q => by simp only [cO, cc]; by_cases ai : z = x <;> by_cases aj : z = y <;> simp [ai, aj, cO, cc] <;> (subst_vars; simp_all [cO, cc])
 | .ae z q => by simp only [cO, cc]; by_cases aj : z = y <;> simp [aj, cc]
 | .fn f cap => by simp only [cO, cc]; rw [G_ x y cap]
 | .hole => rfl
 | .bool _ => rfl
 | .e7 => rfl
 | .int _ _ => rfl
 | .str _ => rfl
 | .dC => rfl
 | .bc => rfl
 | .slice _ => rfl
 | .aw _ _ => rfl
 | .ref _ => rfl
 | .a8 _ => rfl
 | .agg _ => rfl
 | .tuple _ => rfl
theorem G_ (x y : Nat) : ∀ ds : List I, ir x (iU y ds) = iU y (ir x ds)
 | [] => rfl
 | d :: ds => by simp only [iU, ir]; rw [C8 x y d, G_ x y ds]
end
theorem Oy (k l : oG) (x y : Nat) (a : I) : k.app x (l.app y a) = l.app y (k.app x a) := by
 cases k <;> cases l <;> simp only [oG.app] <;> first | rfl | exact G6 .. | exact G8 .. | exact C8 .. | exact (C8 ..).symm
def aI.use (s : ar) : aI → List Nat
 | .t n => n :: (s n).ah
 | .c av => av.ah
 | .f _ => []
def aI.m2 (s : ar) : List aI → List Nat
 | [] => []
 | x :: xs => x.use s ++ aI.m2 s xs
def C9 (s : ar) : Option aI → List Nat
 | none => []
 | some x => x.use s
def use (s : ar) : ga → List Nat
 | .ad x => x.use s
 | .af x => x.use s
 | .pick c a b => c.use s ++ (a.use s ++ b.use s)
 | .eB _ => []
 | .c2 _ x => x.use s
 | .fC _ ps => aI.m2 s (ps.map (·.2))
 | .eD _ _ ps => aI.m2 s (ps.map (·.2))
 | .aD _ x => x.use s
 | .cx _ x y => x.use s ++ y.use s
 | .dN x => x.use s
 | .aq _ _ x y => x.use s ++ y.use s
 | .un _ x => x.use s
 | .fZ _ _ x => x.use s
 | .h8 _ cs => aI.m2 s cs
 | .eV _ l c => l.use s ++ c.use s
 | .fB _ x dg au => x.use s ++ (C9 s dg ++ C9 s au)
 | .aP _ x _ => x.use s
 | .bJ _ x i => x.use s ++ i.use s
 | .idx _ x i => x.use s ++ i.use s
 | .ex x _ => x.use s
 | .call f args => f.use s ++ aI.m2 s args
 | .len _ x => x.use s
 | .app _ _ x y => x.use s ++ y.use s
 | .shr bN => use s bN
 | .lT f args u x => u :: x :: (f.use s ++ aI.m2 s args)
 | .jX f args us => us.flatMap (fun u => u :: (s u).ah) ++ (f.use s ++ aI.m2 s args)
 | .ju _ x => x.use s
 | .mZ _ _ x y => x.use s ++ y.use s
 | .cap _ x => x.use s
 | .oF _ x y => x.use s ++ y.use s
 | .bad => []
def dA (s : ar) : ga → List Nat
 | .af x => (aS s x).ah
 | .c2 _ x => (aS s x).ah
 | .fC _ ps => I.ea (ps.map fun p => aS s p.2)
 | .eD _ _ ps => I.ea (ps.map fun p => aS s p.2)
 | .cx _ x y => (aS s x).ah ++ (aS s y).ah
 | .fB _ x _ _ => (aS s x).ah
 | .app _ _ x y => (aS s x).ah ++ (aS s y).ah
 | .shr bN => dA s bN
 | _ => []
def ej (bO : List Nat) (aA s : ar) : Prop := ∀ u ∈ bO, aA u = s u
theorem ej.left {bO V : List Nat} {aA s : ar} (h : ej (bO ++ V) aA s) : ej bO aA s := fun u hu => h u (List.mem_append_left _ hu)
theorem ej.right {bO V : List Nat} {aA s : ar} (h : ej (bO ++ V) aA s) : ej V aA s := fun u hu => h u (List.mem_append_right _ hu)
theorem ej.dw {bO : List Nat} {aA s : ar} (h : ej bO aA s) (ms : List gQ) : ej bO (dw ms aA) (dw ms s) := fun u hu => Ox (h u hu)
theorem ej.sub {bO V : List Nat} {aA s : ar} (h : ej bO aA s) (ah : ∀ u ∈ V, u ∈ bO) : ej V aA s := fun u hu => h u (ah u hu)
theorem aI.rb {s : ar} {x : aI} : ∀ u ∈ (aS s x).ah, u ∈ x.use s := by
 intro u hu
 cases x with
 | t n =>
   simp only [aS, iV] at hu
   split at hu
   ·simp [aI.use, hu]
   ·simp only [I.ah, List.mem_singleton] at hu; simp [aI.use, hu]
 | c av => exact hu
 | f g => simp [aS, I.ah, I.ea] at hu
theorem aI.gH {s aA : ar} {x : aI} (h : ej (x.use s) aA s) : aS aA x = aS s x := by
 cases x with
 | t n => simp only [aS]; rw [h n (by simp [aI.use])]
 | c av => rfl
 | f g => rfl
theorem ej.aS {s aA : ar} {x : aI} (h : ej (x.use s) aA s) : ej (aS s x).ah aA s := h.sub aI.rb
theorem Ha {s aA : ar} {x : Option aI} (h : ej (C9 s x) aA s) : x.map (aS aA) = x.map (aS s) := by
 cases x with
 | none => rfl
 | some x => simp only [Option.map_some]; rw [aI.gH h]
theorem aI.C_ {s aA : ar} : ∀ {xs : List aI}, ej (aI.m2 s xs) aA s → xs.map (aS aA) = xs.map (aS s)
 | [], _ => rfl
 | x :: xs, h => by
   simp only [List.map_cons]
   rw [aI.gH (h.left), aI.C_ (h.right)]
theorem aI.Da {s aA : ar} : ∀ {ps : List (Nat × aI)}, ej (aI.m2 s (ps.map (·.2))) aA s → (ps.map fun p => (p.1, aS aA p.2)) = ps.map fun p => (p.1, aS s p.2)
 | [], _ => rfl
 | x :: xs, h => by
   simp only [List.map_cons] at h ⊢
   rw [aI.gH (h.left), aI.Da (h.right)]
theorem aI.yP {s : ar} : ∀ {xs : List aI}, ∀ u ∈ I.ea (xs.map (aS s)), u ∈ aI.m2 s xs
 | [], u, h => by simp [I.ea] at h
 | x :: xs, u, h => by
   simp only [List.map_cons, I.ea, List.mem_append] at h
   simp only [aI.m2, List.mem_append]
   exact h.imp (aI.rb u) (aI.yP u)
section
variable {C : ck} {s aA : ar} {x y i : I} {T A B : TypeId}
theorem Db (h : ej x.ah aA s) : loc aA x = loc s x := by
 cases x <;> first
  | rfl
  | (simp only [loc]; rw [h _ (by simp [I.ah])])
theorem Dc {z : Nat} {q : List Nat} (h : loc s x = some (z, q)) : z ∈ x.ah := by
 cases x with
 | h y p =>
   simp only [loc] at h
   split at h
   ·simp only [Option.some.injEq, Prod.mk.injEq] at h; simp [I.ah, h.1]
   ·cases h
 | ax y p =>
   simp only [loc] at h
   split at h
   ·simp only [Option.some.injEq, Prod.mk.injEq] at h; simp [I.ah, h.1]
   ·cases h
 | _ => simp [loc] at h
theorem Oz (h : ej x.ah aA s) : aD C aA T x = aD C s T x := by
 have hl := Db h
 unfold aD
 split
 ·rfl
 ·rw [h _ (by simp [I.ah])]
 ·rw [hl]
  split
  ·rename_i e
   rw [h _ (Dc e)]
  ·rfl
theorem OA {k : Nat} (h : ej x.ah aA s) : aP C aA T x k = aP C s T x k := by
 have hl := Db h
 unfold aP
 split
 ·split
  ·split
   ·split
    ·rfl
    ·rw [h _ (by simp [I.ah])]
    ·rw [hl]
     split
     ·rename_i e
      rw [h _ (Dc e)]
     ·rfl
   ·rfl
  ·rfl
 ·rfl
theorem OB (h : ej x.ah aA s) : bJ C aA T x i = bJ C s T x i := by
 cases x <;> first
  | rfl
  | (simp only [bJ]; rw [h _ (by simp [I.ah])])
theorem OC (h : ej x.ah aA s) : lu C aA T x = lu C s T x := by
 unfold lu
 cases (C.T T).k <;> cases x <;> first
  | rfl
  | (simp only; rw [h _ (by simp [I.ah])])
theorem OD (h : ej x.ah aA s) : fZ C aA A B x = fZ C s A B x := by
 unfold fZ
 cases (C.T B).k <;> cases x <;> first
  | rfl
  | (simp only; rw [h _ (by simp [I.ah])])
theorem OE (h : ej x.ah aA s) : jl aA x = jl s x := by
 cases x <;> first
  | rfl
  | (simp only [jl]; rw [h _ (by simp [I.ah])])
theorem OG (h : ej x.ah aA s) : kO aA x = kO s x := by
 cases x <;> first
  | rfl
  | (simp only [kO]; rw [h _ (by simp [I.ah])])
theorem OH {op : BinOp} (h : ej x.ah aA s) : aq C aA op T x y = aq C s op T x y := by
 have ai := OE h
 have aj := OG h
 unfold aq
 split <;> first | rfl | simp only [ai, aj]
theorem OI (h : ej x.ah aA s) : dN aA x = dN s x := by
 cases x <;> first
  | rfl
  | (simp only [dN]; rw [h _ (by simp [I.ah])])
theorem OJ {k : Nat} (h : ej x.ah aA s) : ex aA x k = ex s x k := by
 cases x <;> first
  | rfl
  | (simp only [ex]; rw [h _ (by simp [I.ah])])
theorem vz : ∀ (q : List Nat) (a d e : I), I.sub q a = some d → (d.plain = false ∨ q ≠ []) → (q = [] → e.ah = []) → (I.put q e a).ah = [] := by
 intro q a d e h ax he
 cases q with
 | nil => rw [I.put]; exact he rfl
 | cons k q =>
   cases a <;> first
    | (simp [I.sub] at h; done)
    | skip
   all_goals
    unfold I.put
    repeat' split
    all_goals first | rfl | (simp_all; done)
end
def Loc {α : Type} (bO th : List Nat) (f : ar → Option (α × ar)) (s : ar) (av : α) (s1 : ar) : Prop :=
 ∃ ms, s1 = dw ms s ∧ (∀ m ∈ ms, m.x ∈ th ∧ m.d.ah = []) ∧ ∀ aA, ej bO aA s → f aA = some (av, dw ms aA)
theorem Loc.pure {α : Type} {bO th : List Nat} {f : ar → Option (α × ar)} {s : ar} {av : α} (h : ∀ aA, ej bO aA s → f aA = some (av, aA)) : Loc bO th f s av s :=
 ⟨[], rfl, by simp, fun aA ah => h aA ah⟩
theorem Loc.mono {α : Type} {bO th yQ Hb : List Nat} {f : ar → Option (α × ar)} {s s1 : ar} {av : α} (h : Loc bO th f s av s1) (oD : ∀ u ∈ bO, u ∈ yQ) (kr : ∀ u ∈ th, u ∈ Hb) : Loc yQ Hb f s av s1 := by
 obtain ⟨ms, ai, aj, aQ⟩ := h
 exact ⟨ms, ai, fun m hm => ⟨kr _ (aj m hm).1, (aj m hm).2⟩, fun aA ah => aQ aA (ah.sub oD)⟩
section
variable {C : ck} {s s1 : ar} {x y d : I} {T A B : TypeId}
theorem re (h : cS s x = some (d, s1)) : Loc x.ah x.ah (fun s => cS s x) s d s1 := by
 cases x with
 | h y q =>
   simp only [cS] at h
   split at h
   ·rename_i e he
    split at h
    ·cases h
    ·rename_i ax
     simp only [Option.some.injEq, Prod.mk.injEq] at h
     obtain ⟨rfl, rfl⟩ := h
     have ax : e.plain = false := by simpa using ax
     refine ⟨[⟨.cc, y, I.put q e.di (s y)⟩], vw _ _ _, ?_, ?_⟩
     ·intro m hm
      simp only [List.mem_singleton] at hm; subst hm
      refine ⟨by simp [I.ah], vz q _ _ _ he (.inl ax) fun dd => ?_⟩
      subst dd
      cases e <;> first | (simp [I.plain] at ax; done) | rfl
     ·intro aA ah
      have a4 : aA y = s y := ah y (by simp [I.ah])
      simp only [cS, a4, he, ax]
      rw [← vw]; rfl
   ·cases h
 | ax y q => simp [cS] at h
 | ae y q => simp [cS] at h
 | fn f c => simp [cS] at h
 | hole => simp [cS] at h
 | _ =>
   simp only [cS, Option.some.injEq, Prod.mk.injEq] at h
   obtain ⟨rfl, rfl⟩ := h
   exact .pure fun aA _ => rfl
mutual
theorem Hc (x : Nat) : ∀ a : I, ∀ u ∈ (cc x a).ah, u ∈ a.ah
 | .h y q, u, h => by
   simp only [cc] at h
   split at h
   ·split at h
    ·exact h
    ·simp [I.ah] at h
   ·exact h
 | .ax y q, u, h => by
   simp only [cc] at h
   split at h
   ·simp [I.ah] at h
   ·exact h
 | .ae y q, u, h => h
 | .fn f cap, u, h => by simp only [cc, I.ah] at h ⊢; exact Hd x cap u h
 | .hole, u, h => h
 | .bool _, u, h => h
 | .e7, u, h => h
 | .int _ _, u, h => h
 | .str _, u, h => h
 | .dC, u, h => h
 | .bc, u, h => h
 | .slice _, u, h => h
 | .aw _ _, u, h => h
 | .ref _, u, h => h
 | .a8 _, u, h => h
 | .agg _, u, h => h
 | .tuple _, u, h => h
theorem Hd (x : Nat) : ∀ ds : List I, ∀ u ∈ I.ea (ir x ds), u ∈ I.ea ds
 | [], u, h => h
 | d :: ds, u, h => by
   simp only [ir, I.ea, List.mem_append] at h ⊢
   exact h.imp (Hc x d u) (Hd x ds u)
end
theorem Dd (o : Option Nat) (a : I) : ∀ u ∈ (j_ o a).ah, u ∈ a.ah := by
 intro u h
 cases o with
 | none => exact h
 | some x => exact Hc x a u h
theorem He : ∀ (os : List (Option Nat)) (a : I), ∀ u ∈ (ky os a).ah, u ∈ a.ah := by
 intro os
 induction os with
 | nil => intro a u h; exact h
 | cons o os ih => intro a u h; exact Dd o a u (ih (j_ o a) u h)
theorem Hf {place : Nat → Option (Nat × Nat)} : ∀ {ps : List (Nat × I)} {s s1 : ar} {eU ds : List I} {os : List (Option Nat)}, ew place s eU os ps = some (ds, s1) →
  Loc (I.ea (ps.map (·.2))) (I.ea (ps.map (·.2))) (fun s => ew place s eU os ps) s ds s1 := by
 intro ps
 induction ps with
 | nil =>
   intro s s1 eU ds os h
   simp only [ew, Option.some.injEq, Prod.mk.injEq] at h
   obtain ⟨rfl, rfl⟩ := h
   exact .pure fun aA _ => rfl
 | cons p ps ih =>
   intro s s1 eU ds os h
   obtain ⟨k, a⟩ := p
   simp only [ew] at h
   split at h
   ·rename_i d s2 off n z bh gq b7
    split at h
    ·cases h
    ·rename_i bF lV
     split at h
     ·rename_i ay
      obtain ⟨nJ, rfl, aj, aQ⟩ := re bh
      obtain ⟨rf, rfl, b3, cG⟩ := ih h
      refine ⟨nJ ++ rf, (k8 _ _ _).symm, ?_, ?_⟩
      ·intro m hm
       simp only [List.map_cons, I.ea, List.mem_append] at hm ⊢
       rcases hm with hm | hm
       ·exact ⟨.inl (He _ _ _ (aj m hm).1), (aj m hm).2⟩
       ·exact ⟨.inr (b3 m hm).1, (b3 m hm).2⟩
      ·intro aA ah
       simp only [List.map_cons, I.ea] at ah
       have a4 := aQ aA (ah.left.sub (He _ _))
       have a_ := cG (dw nJ aA) (ah.right.dw nJ)
       simp only at a4 a_
       simp only [ew, a4, gq, b7, k8]
       rw [if_pos ay]; exact a_
     ·cases h
   ·cases h
theorem OK {ps : List (Nat × I)} {av : I} (h : fC C s T ps = some (av, s1)) : Loc (I.ea (ps.map (·.2))) (I.ea (ps.map (·.2))) (fun s => fC C s T ps) s av s1 := by
 unfold fC at h
 split at h
 ·rename_i az eU aE b7
  split at h
  ·rename_i ay
   split at h
   ·rename_i ds s2 bH
    simp only [Option.some.injEq, Prod.mk.injEq] at h
    obtain ⟨rfl, rfl⟩ := h
    obtain ⟨ms, ai, aj, aQ⟩ := Hf bH
    refine ⟨ms, ai, aj, fun aA ah => ?_⟩
    have := aQ aA ah
    simp only at this
    simp only [fC, aE, b7, if_pos ay, this]
   ·cases h
  ·cases h
 ·cases h
theorem OL {n : Nat} {ps : List (Nat × I)} {av : I} (h : eD C s T n ps = some (av, s1)) : Loc (I.ea (ps.map (·.2))) (I.ea (ps.map (·.2))) (fun s => eD C s T n ps) s av s1 := by
 unfold eD at h
 split at h
 ·rename_i e aE
  split at h
  ·rename_i ay
   split at h
   ·rename_i ds s2 bH
    simp only [Option.some.injEq, Prod.mk.injEq] at h
    obtain ⟨rfl, rfl⟩ := h
    obtain ⟨ms, ai, aj, aQ⟩ := Hf bH
    refine ⟨ms, ai, aj, fun aA ah => ?_⟩
    have := aQ aA ah
    simp only at this
    simp only [eD, aE, if_pos ay, this]
   ·cases h
  ·cases h
 ·cases h
theorem OM {av : I} (h : c2 s x = some (av, s1)) : Loc x.ah x.ah (fun s => c2 s x) s av s1 := by
 unfold c2 at h
 split at h
 ·cases h
 ·rename_i d s2 lV bh
  simp only [Option.some.injEq, Prod.mk.injEq] at h
  obtain ⟨rfl, rfl⟩ := h
  obtain ⟨ms, ai, aj, aQ⟩ := re bh
  refine ⟨ms, ai, aj, fun aA ah => ?_⟩
  have := aQ aA ah
  simp only at this
  simp only [c2, this]
 ·cases h
theorem ON {av : I} (h : ju s x = some (av, s1)) : Loc x.ah [] (fun s => ju s x) s av s1 := by
 unfold ju at h
 split at h
 ·rename_i y q
  split at h
  ·rename_i ds mn
   split at h
   ·cases h
   ·rename_i vd
    simp only [Option.some.injEq, Prod.mk.injEq] at h
    obtain ⟨rfl, rfl⟩ := h
    refine .pure fun aA ah => ?_
    have e : aA y = s y := ah y (by simp [I.ah])
    simp only [ju, e, mn, if_neg vd]
  ·cases h
 ·cases h
theorem OO {s2 : ar} (h : cx C s T x y = some s2) : Loc (x.ah ++ y.ah) (x.ah ++ y.ah) (fun s => (cx C s T x y).map fun s1 => (I.hole, s1)) s .hole s2 := by
 unfold cx at h
 split at h
 ·rename_i d s1 z q bh hl
  obtain ⟨ms, ai, aj, aQ⟩ := re bh
  have b7 := Dc hl
  have dd : q ≠ [] := by
   cases x with
   | h y p =>
     simp only [loc] at hl
     split at hl
     ·simp only [Option.some.injEq, Prod.mk.injEq] at hl; simp [← hl.2]
     ·cases hl
   | ax y p =>
     simp only [loc] at hl
     split at hl
     ·rename_i nA
      simp only [Option.some.injEq, Prod.mk.injEq] at hl
      obtain ⟨rfl, rfl⟩ := hl
      intro e; subst e; simp [I.fK] at nA
     ·cases hl
   | _ => simp [loc] at hl
  split at h
  ·cases h
  ·rename_i bF lV
   split at h
   ·rename_i d0 ks
    split at h
    ·rename_i ay
     simp only [Option.some.injEq] at h; subst h
     refine ⟨ms ++ [⟨.cc, z, I.put q d (s z)⟩], ?_, ?_, ?_⟩
     ·rw [k8, ← ai, vw]
     ·intro m hm
      simp only [List.mem_append, List.mem_singleton] at hm ⊢
      rcases hm with hm | rfl
      ·exact ⟨.inr (aj m hm).1, (aj m hm).2⟩
      ·exact ⟨.inl b7, vz q _ _ _ ks (.inr dd) fun e => (dd e).elim⟩
     ·intro aA ah
      have a4 := aQ aA ah.right
      simp only at a4
      simp only [cx, a4, Db ah.left, hl, ah.left z b7, ks]
      cases d <;> first | (simp only [if_pos ay, Option.map_some, k8, vw]; done) | exact (lV _ rfl).elim
    ·cases h
   ·cases h
 ·cases h
theorem OP {dg au : Option I} {av : I} (h : fB C s T x dg au = some (av, s1)) : Loc x.ah x.ah (fun s => fB C s T x dg au) s av s1 := by
 cases x with
 | h y q =>
   unfold fB at h
   split at h <;> first | (cases h; done) | skip
   all_goals (rename_i aC; try cases aC)
   rename_i e aE
   split at h
   ·rename_i sz xs fp
    split at h
    ·rename_i b mU mV
     split at h
     ·rename_i ay
      split at h
      ·rename_i d s2 bh
       simp only [Option.some.injEq, Prod.mk.injEq] at h
       obtain ⟨rfl, rfl⟩ := h
       obtain ⟨ms, ai, aj, aQ⟩ := re bh
       refine ⟨ms, ai, aj, fun aA ah => ?_⟩
       have := aQ aA ah
       simp only at this
       have a4 : aA y = s y := ah y (by simp [I.ah])
       simp only [fB, aE, a4, fp, mU, mV, if_pos ay, this]
      ·cases h
     ·cases h
    ·cases h
   ·cases h
 | _ =>
   have pn : s1 = s := by
    unfold fB at h
    repeat' split at h
    all_goals first | (cases h; done) | (simp only [Option.some.injEq, Prod.mk.injEq] at h; exact h.2.symm) | simp_all
   subst pn
   refine .pure fun aA _ => ?_
   unfold fB at h ⊢
   repeat' split at h
   all_goals first
    | (cases h; done)
    | (simp only [Option.some.injEq, Prod.mk.injEq] at h
       obtain ⟨rfl, _⟩ := h
       simp_all)
def oH (C : ck) (e : TypeId) (s : ar) : I → Option (I × ar)
 | .bc => some (I.aw (C.T e).sz [], s)
 | .h a q => cS s (.h a q)
 | _ => none
def kQ (s1 : ar) : I → Option (List I × ar)
 | .bc => some ([], s1)
 | .slice c7 => some (c7, s1)
 | .str l => some (l.map ka, s1)
 | .h a q => match cS s1 (.h a q) with
   | some (.aw _ c7, s2) => some (c7, s2)
   | _ => none
 | _ => none
theorem De (C : ck) (s : ar) (T bO : TypeId) (x y : I) : lx C s T bO x y = (match (C.T T).k with
 | .slice e => if (C.T e).ok = true ∧ (C.T e).zero.wd = (C.T e).sz ∧ (flat (C.T e).zero).isSome = true ∧ yE C e bO = true then
   match oH C e s x with
   | some (.aw sz xs, s1) => if sz = (C.T e).sz then
     match kQ s1 (j_ x.owner y) with
     | some (c7, s2) => if (∀ d ∈ c7, d.wd = (C.T e).sz) ∧ (xs.length + c7.length) * (C.T e).bytes ≤ 140737488355328 ∧ xs.length + c7.length ≤ 9223372036854775807 then some (.aw sz (xs ++ c7), s2) else none
     | none => none
     else none
   | _ => none
   else none
 | _ => none) := by
 unfold lx
 generalize j_ x.owner y = jP
 cases (C.T T).k <;> first
  | rfl
  | (cases x <;> cases jP <;> rfl)
theorem OQ {e : TypeId} {d : I} (ai : oH C e s x = some (d, s1)) : Loc x.ah x.ah (fun s => oH C e s x) s d s1 := by
 cases x with
 | bc =>
   simp only [oH, Option.some.injEq, Prod.mk.injEq] at ai
   obtain ⟨ai, rfl⟩ := ai
   exact .pure fun aA _ => by simp only [oH, ai]
 | h a q => exact re ai
 | _ => simp [oH] at ai
theorem OR {c7 : List I} (aj : kQ s y = some (c7, s1)) : Loc y.ah y.ah (fun s => kQ s y) s c7 s1 := by
 cases y with
 | bc =>
   simp only [kQ, Option.some.injEq, Prod.mk.injEq] at aj
   obtain ⟨rfl, rfl⟩ := aj
   exact .pure fun aA _ => rfl
 | slice c7 =>
   simp only [kQ, Option.some.injEq, Prod.mk.injEq] at aj
   obtain ⟨rfl, rfl⟩ := aj
   exact .pure fun aA _ => rfl
 | str l =>
   simp only [kQ, Option.some.injEq, Prod.mk.injEq] at aj
   obtain ⟨rfl, rfl⟩ := aj
   exact .pure fun aA _ => rfl
 | h a q =>
   simp only [kQ] at aj
   split at aj
   ·rename_i N7 auQ ha bh
    simp only [Option.some.injEq, Prod.mk.injEq] at aj
    obtain ⟨rfl, rfl⟩ := aj
    obtain ⟨ms, bf, bG, cC⟩ := re bh
    refine ⟨ms, bf, bG, fun aA ah => ?_⟩
    have := cC aA ah
    simp only at this
    simp only [kQ, this]
   ·cases aj
 | _ => simp [kQ] at aj
theorem OS {av : I} (h : lx C s T A x y = some (av, s1)) : Loc (x.ah ++ y.ah) (x.ah ++ y.ah) (fun s => lx C s T A x y) s av s1 := by
 rw [De] at h
 split at h
 ·rename_i e aE
  split at h
  ·rename_i ay
   split at h
   ·rename_i sz xs s2 ai
    split at h
    ·rename_i e4
     split at h
     ·rename_i c7 e6 aj
      split at h
      ·rename_i lQ
       simp only [Option.some.injEq, Prod.mk.injEq] at h
       obtain ⟨rfl, rfl⟩ := h
       obtain ⟨nJ, rfl, bk, dz⟩ := OQ ai
       obtain ⟨rf, rfl, iW, lz⟩ := (OR aj).mono (Dd _ _) (Dd _ _)
       refine ⟨nJ ++ rf, (k8 _ _ _).symm, ?_, ?_⟩
       ·intro m hm
        simp only [List.mem_append] at hm ⊢
        rcases hm with hm | hm
        ·exact ⟨.inl (bk m hm).1, (bk m hm).2⟩
        ·exact ⟨.inr (iW m hm).1, (iW m hm).2⟩
       ·intro aA ah
        have a4 := dz aA ah.left
        have a_ := lz (dw nJ aA) (ah.right.dw nJ)
        simp only at a4 a_
        simp only [De, aE, if_pos ay, a4, if_pos e4, a_, if_pos lQ, k8]
      ·cases h
     ·cases h
    ·cases h
   ·cases h
  ·cases h
 ·cases h
theorem Hg {bN : ga} {av : I} (h : bX C s bN = some (av, s1)) : Loc (use s bN) (dA s bN) (fun s => bX C s bN) s av s1 := by
 cases bN with
 | shr bN => simp [bX] at h
 | lT f args u x => simp [bX] at h
 | jX f args L => simp [bX] at h
 | ju T x =>
   obtain ⟨ms, ai, aj, aQ⟩ := ON h
   refine ⟨ms, ai, aj, fun aA ah => ?_⟩
   simp only [bX, aI.gH (x := x) ah]
   exact aQ aA (ej.aS ah)
 | mZ T bO x y =>
   simp only [bX, Option.map_eq_some_iff, Prod.mk.injEq] at h
   obtain ⟨d, al, rfl, rfl⟩ := h
   exact .pure fun aA ah => by
    simp only [use] at ah
    simp only [bX, aI.gH (x := x) ah.left, aI.gH (x := y) ah.right, al, Option.map_some]
 | bad => simp [bX] at h
 | oF hD x y =>
   simp only [bX, Option.map_eq_some_iff, Prod.mk.injEq] at h
   obtain ⟨d, al, rfl, rfl⟩ := h
   exact .pure fun aA ah => by
    simp only [use] at ah
    simp only [bX, aI.gH (x := x) ah.left, aI.gH (x := y) ah.right, al, Option.map_some]
 | cap T x =>
   simp only [bX] at h
   split at h
   ·rename_i e aE aC
    simp only [Option.some.injEq, Prod.mk.injEq] at h
    obtain ⟨rfl, rfl⟩ := h
    exact .pure fun aA ah => by simp only [bX, aI.gH (x := x) ah, aE, aC]
   ·cases h
 | ad x =>
   simp only [bX, Option.some.injEq, Prod.mk.injEq] at h
   obtain ⟨rfl, rfl⟩ := h
   exact .pure fun aA ah => by simp only [bX, aI.gH (x := x) ah]
 | af x =>
   simp only [bX] at h
   split at h
   ·rename_i y q aC
    obtain ⟨ms, ai, aj, aQ⟩ := re h
    refine ⟨ms, ai, by simpa only [dA, aC] using aj, fun aA ah => ?_⟩
    have e := aI.gH (x := x) ah
    have a_ := aQ aA (by rw [← aC]; exact ej.aS ah)
    simp only [bX, e, aC]
    exact a_
   ·rename_i auR
    simp only [Option.some.injEq, Prod.mk.injEq] at h
    obtain ⟨rfl, rfl⟩ := h
    refine .pure fun aA ah => ?_
    have e := aI.gH (x := x) ah
    simp only [bX, e]
 | pick c a b =>
   simp only [bX] at h
   split at h
   ·rename_i fY ae
    simp only [Option.some.injEq, Prod.mk.injEq] at h
    obtain ⟨rfl, rfl⟩ := h
    refine .pure fun aA ah => ?_
    simp only [use] at ah
    simp only [bX, aI.gH (x := c) ah.left, aI.gH (x := a) ah.right.left, aI.gH (x := b) ah.right.right, ae]
   ·cases h
 | eB T =>
   simp only [bX, Option.map_eq_some_iff, Prod.mk.injEq] at h
   obtain ⟨d, al, rfl, rfl⟩ := h
   exact .pure fun aA ah => by simp only [bX, al, Option.map_some]
 | c2 T x =>
   obtain ⟨ms, ai, aj, aQ⟩ := OM h
   refine ⟨ms, ai, aj, fun aA ah => ?_⟩
   simp only [bX, aI.gH (x := x) ah]
   exact aQ aA (ej.aS ah)
 | fC T ps =>
   obtain ⟨ms, ai, aj, aQ⟩ := OK h
   simp only [List.map_map, Function.comp_def] at aj aQ
   refine ⟨ms, ai, aj, fun aA ah => ?_⟩
   simp only [bX, aI.Da (ps := ps) ah]
   refine aQ aA (ah.sub fun u hu => ?_)
   simp only [use]
   exact aI.yP u (by simpa [List.map_map, Function.comp_def] using hu)
 | eD T n ps =>
   obtain ⟨ms, ai, aj, aQ⟩ := OL h
   simp only [List.map_map, Function.comp_def] at aj aQ
   refine ⟨ms, ai, aj, fun aA ah => ?_⟩
   simp only [bX, aI.Da (ps := ps) ah]
   refine aQ aA (ah.sub fun u hu => ?_)
   simp only [use]
   exact aI.yP u (by simpa [List.map_map, Function.comp_def] using hu)
 | aD T x =>
   simp only [bX, Option.map_eq_some_iff, Prod.mk.injEq] at h
   obtain ⟨d, al, rfl, rfl⟩ := h
   exact .pure fun aA ah => by simp only [bX, aI.gH (x := x) ah, Oz (ej.aS ah), al, Option.map_some]
 | cx T x y =>
   simp only [bX, Option.map_eq_some_iff, Prod.mk.injEq] at h
   obtain ⟨s2, al, rfl, rfl⟩ := h
   obtain ⟨ms, ai, aj, aQ⟩ := OO al
   refine ⟨ms, ai, aj, fun aA ah => ?_⟩
   simp only [use] at ah
   simp only [bX, aI.gH (x := x) ah.left, aI.gH (x := y) ah.right]
   exact aQ aA (ah.sub fun u hu => by simp only [List.mem_append] at hu ⊢; exact hu.imp (aI.rb u) (aI.rb u))
 | dN x =>
   simp only [bX, Option.map_eq_some_iff, Prod.mk.injEq] at h
   obtain ⟨d, al, rfl, rfl⟩ := h
   exact .pure fun aA ah => by simp only [bX, aI.gH (x := x) ah, OI (ej.aS ah), al, Option.map_some]
 | aq op T x y =>
   simp only [bX, Option.map_eq_some_iff, Prod.mk.injEq] at h
   obtain ⟨d, al, rfl, rfl⟩ := h
   refine .pure fun aA ah => ?_
   simp only [use] at ah
   simp only [bX, aI.gH (x := x) ah.left, aI.gH (x := y) ah.right, OH (ej.aS ah.left), al, Option.map_some]
 | un op x =>
   simp only [bX, Option.map_eq_some_iff, Prod.mk.injEq] at h
   obtain ⟨d, al, rfl, rfl⟩ := h
   exact .pure fun aA ah => by simp only [bX, aI.gH (x := x) ah, al, Option.map_some]
 | fZ A B x =>
   simp only [bX, Option.map_eq_some_iff, Prod.mk.injEq] at h
   obtain ⟨d, al, rfl, rfl⟩ := h
   exact .pure fun aA ah => by simp only [bX, aI.gH (x := x) ah, OD (ej.aS ah), al, Option.map_some]
 | h8 f cs =>
   simp only [bX, Option.some.injEq, Prod.mk.injEq] at h
   obtain ⟨rfl, rfl⟩ := h
   exact .pure fun aA ah => by simp only [bX, aI.C_ (xs := cs) ah]
 | eV T l c =>
   simp only [bX, Option.map_eq_some_iff, Prod.mk.injEq] at h
   obtain ⟨d, al, rfl, rfl⟩ := h
   refine .pure fun aA ah => ?_
   simp only [use] at ah
   simp only [bX, aI.gH (x := l) ah.left, aI.gH (x := c) ah.right, al, Option.map_some]
 | fB T x dg au =>
   simp only [bX] at h
   obtain ⟨ms, ai, aj, aQ⟩ := OP h
   refine ⟨ms, ai, aj, fun aA ah => ?_⟩
   simp only [use] at ah
   simp only [bX, aI.gH (x := x) ah.left, Ha ah.right.left, Ha ah.right.right]
   exact aQ aA (ej.aS ah.left)
 | aP T x k =>
   simp only [bX, Option.map_eq_some_iff, Prod.mk.injEq] at h
   obtain ⟨d, al, rfl, rfl⟩ := h
   exact .pure fun aA ah => by simp only [bX, aI.gH (x := x) ah, OA (ej.aS ah), al, Option.map_some]
 | bJ T x i =>
   simp only [bX, Option.map_eq_some_iff, Prod.mk.injEq] at h
   obtain ⟨d, al, rfl, rfl⟩ := h
   refine .pure fun aA ah => ?_
   simp only [use] at ah
   simp only [bX, aI.gH (x := x) ah.left, aI.gH (x := i) ah.right, OB (ej.aS ah.left), al, Option.map_some]
 | idx T x i =>
   simp only [bX, Option.map_eq_some_iff, Prod.mk.injEq] at h
   obtain ⟨d, al, rfl, rfl⟩ := h
   refine .pure fun aA ah => ?_
   simp only [use] at ah
   simp only [bX, aI.gH (x := x) ah.left, aI.gH (x := i) ah.right, al, Option.map_some]
 | ex x k =>
   simp only [bX, Option.map_eq_some_iff, Prod.mk.injEq] at h
   obtain ⟨d, al, rfl, rfl⟩ := h
   exact .pure fun aA ah => by simp only [bX, aI.gH (x := x) ah, OJ (ej.aS ah), al, Option.map_some]
 | call f args => simp [bX] at h
 | len T x =>
   simp only [bX, Option.map_eq_some_iff, Prod.mk.injEq] at h
   obtain ⟨d, al, rfl, rfl⟩ := h
   exact .pure fun aA ah => by simp only [bX, aI.gH (x := x) ah, OC (ej.aS ah), al, Option.map_some]
 | app T bO x y =>
   obtain ⟨ms, ai, aj, aQ⟩ := OS h
   refine ⟨ms, ai, aj, fun aA ah => ?_⟩
   simp only [use] at ah
   simp only [bX, aI.gH (x := x) ah.left, aI.gH (x := y) ah.right]
   exact aQ aA (ah.sub fun u hu => by simp only [List.mem_append] at hu ⊢; exact hu.imp (aI.rb u) (aI.rb u))
end
def I.one : I → Bool
 | .agg _ => false
 | .tuple _ => false
 | _ => true
mutual
def view (s : ar) : I → Option I
 | .h x q => match I.sub q (s x) with
   | some d => (match d with | .tuple _ => none | d => if d.plain then none else some d.share)
   | none => none
 | .ax x q => if I.fK q (s x) then (match I.sub q (s x) with
   | some d => (match d with | .tuple _ => none | d => some (.ref d.share))
   | none => none) else none
 | .ae _ _ => none
 | .fn f cap => (views s cap).map (.fn f)
 | .hole => none
 | d => some d
def views (s : ar) : List I → Option (List I)
 | [] => some []
 | d :: ds => match view s d, views s ds with
   | some a, some b => some (a :: b)
   | _, _ => none
end
mutual
theorem Df : ∀ d : I, d.share.plain = true
 | .hole => rfl
 | .bool _ => rfl
 | .e7 => rfl
 | .int _ _ => rfl
 | .str _ => rfl
 | .dC => rfl
 | .bc => rfl
 | .slice _ => rfl
 | .aw _ _ => rfl
 | .ref _ => rfl
 | .a8 _ => rfl
 | .agg az => by simp only [I.share, I.plain]; exact Dg az
 | .tuple az => by simp only [I.share, I.plain]; exact Dg az
 | .fn _ _ => rfl
 | .h _ _ => rfl
 | .ax _ _ => rfl
 | .ae _ _ => rfl
theorem Dg : ∀ ds : List I, I.dI (I.shares ds) = true
 | [] => rfl
 | d :: ds => by simp only [I.shares, I.dI]; rw [Df d, Dg ds]; rfl
end
theorem OT {s : ar} {a d : I} (h : a.plain = true) (he : view s a = some d) : d.plain = true := by
 cases a with
 | h x q =>
   simp only [view] at he
   split at he
   ·rename_i e fp
    cases e <;> simp only at he <;> first
     | (cases he; done)
     | (split at he
        ·cases he
        ·simp only [Option.some.injEq] at he
         subst he; exact Df _)
   ·cases he
 | ax x q =>
   simp only [view] at he
   split at he
   ·split at he
    ·rename_i e fp
     cases e <;> simp only at he <;> first
      | (cases he; done)
      | (simp only [Option.some.injEq] at he; subst he; rfl)
    ·cases he
   ·cases he
 | fn f cap =>
   simp only [view, Option.map_eq_some_iff] at he
   obtain ⟨ds, _, rfl⟩ := he
   rfl
 | hole => simp [view] at he
 | ae y q => simp [view] at he
 | _ => simp only [view, Option.some.injEq] at he; subst he; exact h
theorem Dh {d : I} {v : Value} (ai : ∀ vs, d ≠ .tuple vs) (h : eN d v) : eN d.share v := by
 cases d <;> first | exact h | exact (ai _ rfl).elim
theorem OU (w : World) : ∀ (q : List Nat) (av d bF : I) (cs c0 : List Value) (a cR : Option (Nat × Nat)), I.sub q av = some d → bF.wd = d.wd → dr w q av cs a = some (d, c0, cR) →
  dr w q (I.put q bF av) cs a = some (bF, c0, cR) := by
 intro q
 induction q with
 | nil =>
   intro av d bF cs c0 a cR al hw h
   simp only [dr, Option.some.injEq, Prod.mk.injEq] at h
   obtain ⟨rfl, rfl, rfl⟩ := h
   simp only [I.put, dr]
 | cons k q ih =>
   intro av d bF cs c0 a cR al hw h
   cases av with
   | agg az =>
     simp only [I.sub] at al
     split at al
     ·rename_i x aC
      have aE : k < az.length := (List.getElem?_eq_some_iff.1 aC).1
      simp only [dr, aC] at h
      simp only [I.put, aC, dr]
      rw [List.getElem?_set_self aE]
      simp only [List.take_set_of_le (Nat.le_refl k), I.sX q x d bF al hw]
      exact ih _ _ _ _ _ _ _ al hw h
     ·cases al
   | tuple az =>
     simp only [I.sub] at al
     split at al
     ·rename_i x aC
      have aE : k < az.length := (List.getElem?_eq_some_iff.1 aC).1
      simp only [dr, aC] at h
      simp only [I.put, aC, dr]
      rw [List.getElem?_set_self aE]
      simp only [List.take_set_of_le (Nat.le_refl k), I.sX q x d bF al hw]
      exact ih _ _ _ _ _ _ _ al hw h
     ·cases al
   | aw sz az =>
     simp only [I.sub] at al
     split at al
     ·rename_i x aC
      have aE : k < az.length := (List.getElem?_eq_some_iff.1 aC).1
      have kx : (az.set k (I.put q bF x))[k]? = some (I.put q bF x) := List.getElem?_set_self aE
      simp only [I.put, aC]
      rw [dr.eq_def] at h ⊢
      simp only [aC] at h
      simp only
      rw [kx]
      split at h
      ·rename_i a4
       simp only [Option.some.injEq] at a4; subst a4
       exact ih _ _ _ _ _ _ _ al hw h
      ·cases h
     ·cases al
   | a8 x =>
     cases k with
     | zero =>
       simp only [I.sub] at al
       rw [dr.eq_def] at h ⊢
       simp only at h
       simp only [I.put]
       split at h
       ·rw [I.sX q x d bF al hw]
        exact ih _ _ _ _ _ _ _ al hw h
       ·cases h
     | succ k => simp [I.sub] at al
   | _ => simp [I.sub] at al
section
variable {w0 w aU : World} {F0 X F Fc : Nat → Prop} {S : Nat → Nat → Prop} {s aA : ar} {aF jO : Nat → Value}
theorem OV (h : bW w0 F0 X F S s aF w) (bE : ∀ b, F b → Fc b) : ∀ n,
  (∀ (a : I) (v : Value) (d : I), SizeOf.sizeOf a ≤ n → (∀ t ∈ a.ah, ∀ b, S t b → Fc b) → view s a = some d → aW w F s aF a v (fun _ => False) → aW w Fc aA jO d v (fun _ => False)) ∧
  (∀ (as : List I) (vs : List Value) (ds : List I), SizeOf.sizeOf as ≤ n → (∀ t ∈ I.ea as, ∀ b, S t b → Fc b) → views s as = some ds → eY w F s aF as vs → eY w Fc aA jO ds vs) := by
 intro n
 induction n with
 | zero => exact ⟨fun a _ _ b7 => by cases a <;> simp at b7 <;> omega, fun as _ _ b7 => by cases as <;> simp at b7 <;> omega⟩
 | succ n ih =>
   refine ⟨fun a v d b7 ca he a3 => ?_, fun as vs ds b7 ca he a3 => ?_⟩
   ·cases a with
    | h x q =>
      simp only [view] at he
      split at he
      ·rename_i e fp
       have key : (∀ az, e ≠ .tuple az) ∧ e.plain = false ∧ d = e.share := by
        cases e <;> simp only at he <;> first
         | (cases he; done)
         | (split at he
            ·cases he
            ·rename_i gq
             simp only [Option.some.injEq] at he
             exact ⟨(fun _ h => by cases h), by simpa using gq, he.symm⟩)
       obtain ⟨lV, gq, rfl⟩ := key
       rw [aW] at a3
       obtain ⟨c0, cR, bf, bG, cC⟩ := a3 e fp gq
       have bh := iq fp (.inl gq)
       have aC := (aW.da bh).1 (h.eu x)
       obtain ⟨gk, bk, e3, hd, k0, b5, cu, fD, eO, gr⟩ := ctx q (s x) (cY (aF x)) (S x) none e aC.2 fp
       rw [bf] at k0
       simp only [Option.some.injEq, Prod.mk.injEq, true_and] at k0
       obtain ⟨rfl, rfl⟩ := k0
       have Cy : e.share.tree = true := by cases e <;> first | rfl | (simp [I.plain] at gq)
       have a7 := aB.shared bE e c0 hd (fun b ae => ca x (by simp [I.ah]) b (cu b ae)) eO
       exact (aW.da Cy).2 ⟨Dh lV cC, by rw [bG]; exact a7⟩
      ·cases he
    | ax x q =>
      simp only [view] at he
      split at he
      ·rename_i nA
       split at he
       ·rename_i e fp
        have key : (∀ az, e ≠ .tuple az) ∧ d = .ref e.share := by
         cases e <;> simp only at he <;> first
          | (cases he; done)
          | (simp only [Option.some.injEq] at he; exact ⟨(fun _ h => by cases h), he.symm⟩)
        obtain ⟨lV, rfl⟩ := key
        rw [aW] at a3
        obtain ⟨c0, b, o, bf, rfl⟩ := a3 e fp nA
        have bh := iq fp (.inr nA)
        have aC := (aW.da bh).1 (h.eu x)
        obtain ⟨gk, bk, e3, hd, k0, b5, cu, fD, eO, gr⟩ := ctx q (s x) (cY (aF x)) (S x) none e aC.2 fp
        rw [bf] at k0
        simp only [Option.some.injEq, Prod.mk.injEq, true_and] at k0
        obtain ⟨rfl, rfl⟩ := k0
        have a7 := aB.shared bE e c0 hd (fun b ae => ca x (by simp [I.ah]) b (cu b ae)) eO
        rcases gr with ⟨l, r, _, a_, _⟩ | ⟨fY, cur, ty, fr, l, r, a4, a_, a2, c1, c9, _⟩
        ·simp at a_
        ·simp only [Option.some.injEq, Prod.mk.injEq] at a4
         obtain ⟨rfl, rfl⟩ := a4
         refine (aW.da rfl).2 ⟨rfl, ?_⟩
         rw [aB]
         refine ⟨b, l.length, c0, rfl, ca x (by simp [I.ah]) b (b5 b a_), ?_, a7⟩
         intro j c cJ
         simp only [World.cell?, a2]
         have ay : cur[l.length + j]? = some c := by
          rw [← Array.getElem?_toList, c9, List.getElem?_append_right (by omega), List.getElem?_append_left (by
           have := (List.getElem?_eq_some_iff.1 cJ).1; omega)]
          rw [← cJ]; congr 1; omega
         simpa using ay
       ·cases he
      ·cases he
    | fn f cap =>
      simp only [view, Option.map_eq_some_iff] at he
      obtain ⟨ds, i7, rfl⟩ := he
      rw [aW] at a3
      obtain ⟨arr, rfl, ay⟩ := a3
      rw [aW]
      exact ⟨arr, rfl, ih.2 cap _ _ (by simp at b7; omega) (by simpa [I.ah] using ca) i7 ay⟩
    | hole => simp [view] at he
    | ae y q => simp [view] at he
    | _ =>
      simp only [view, Option.some.injEq] at he; subst he
      have lp := (aW.da rfl).1 a3
      exact (aW.da rfl).2 ⟨lp.1, aB.mono bE _ _ _ _ (fun _ h => h) lp.2⟩
   ·cases as with
    | nil =>
      simp only [views, Option.some.injEq] at he; subst he
      rw [eY] at a3 ⊢; exact a3
    | cons a as =>
      simp only [views] at he
      split at he
      ·rename_i d ds ai aj
       simp only [Option.some.injEq] at he; subst he
       rw [eY] at a3 ⊢
       obtain ⟨v, j9, rfl, bf, bG⟩ := a3
       simp at b7
       simp only [I.ea, List.mem_append] at ca
       exact ⟨v, j9, rfl, ih.1 a v d (by omega) (fun t bh => ca t (.inl bh)) ai bf, ih.2 as j9 ds (by omega) (fun t bh => ca t (.inr bh)) aj bG⟩
      ·cases he
theorem bW.iX (h : bW w0 F0 X F S s aF w) {x : Nat} {q : List Nat} {d0 bF : I} {c0 : List Value} {a : Option (Nat × Nat)} {Sn : Nat → Prop}
  (al : I.sub q (s x) = some d0) (bH : dr w q (s x) (cY (aF x)) none = some (d0, c0, a)) (aj : ∀ vs, bF ≠ .tuple vs) (bh : q = [] → bF.tree = true ∧ eN bF (aF x))
  (aQ : ∀ k p, q = k :: p → (s x).tree = true ∧ (∀ v, im d0 v → im bF v)) (hw : bF.wd = d0.wd)
  (a3 : aB w F bF c0 Sn) (fz : ∀ b, Sn b → b < w.heap.size) (bE : ∀ b, Sn b → ¬ F b) (ca : ∀ u b, Sn b → ¬ S u b) (a9 : ∀ b, Sn b → X b ∨ w0.heap.size ≤ b) :
  bW w0 F0 X F (gp S x (fun b => S x b ∨ Sn b)) (dt (lo x s) x (I.put q bF (s x))) aF w := by
 have eT : dt aF x (aF x) = aF := by funext u; simp only [dt]; split <;> simp_all
 have main : (I.put q bF (s x)).tree = true ∧ eN (I.put q bF (s x)) (aF x) ∧ aB w F (I.put q bF (s x)) (cY (aF x)) (fun b => S x b ∨ Sn b) := by
  cases q with
  | nil =>
    simp only [dr, Option.some.injEq, Prod.mk.injEq] at bH
    obtain ⟨a4, a_, a2⟩ := bH
    obtain ⟨bf, bG⟩ := bh rfl
    simp only [I.put]
    refine ⟨bf, ?_, ?_⟩
    ·exact bG
    ·rw [a_]; exact aB.mono (fun _ h => h) _ _ _ _ (fun b ae => .inr ae) a3
  | cons k p =>
    obtain ⟨bf, bG⟩ := aQ k p rfl
    have aC := (aW.da bf).1 (h.eu x)
    obtain ⟨gk, bk, e3, hd, k0, b5, cu, fD, eO, gr⟩ := ctx (k :: p) (s x) (cY (aF x)) (S x) none d0 aC.2 al
    rw [bH] at k0
    simp only [Option.some.injEq, Prod.mk.injEq, true_and] at k0
    obtain ⟨rfl, rfl⟩ := k0
    refine ⟨?_, ?_, ?_⟩
    ·rcases qU k p bF (s x) with ⟨az, gs, a4, e⟩ | ⟨az, gs, a4, e⟩ | ⟨sz, xs, c7, a4, e⟩ | ⟨y, z, a4, e⟩ | e <;> rw [e] <;> first | rfl | exact bf
    ·refine Cr aC.1 al bG (fun _ vs e => (aj vs e).elim) hw
    ·have mono : ∀ b, (e3 b ∨ Sn b) → (S x b ∨ Sn b) := fun b ae => ae.imp (b5 b) id
     rcases gr with ⟨l, r, a4, a_, a2⟩ | ⟨b, cur, ty, fr, l, r, a4, a_, a2, c1, c9, cl⟩
     ·rw [a4]
      exact aB.mono (fun _ h => h) _ _ _ _ mono (a2 w bF c0 Sn (fun _ _ => rfl) (fun _ _ => rfl) hw a3 (fun b ae ay => ca x b ae (b5 b ay)))
     ·refine aB.mono (fun _ h => h) _ _ _ _ mono (cl w bF c0 Sn (fun _ _ => rfl) (fun _ _ _ => rfl) ?_ hw a3 (fun b ae ay => ca x b ae (b5 b ay)))
      rw [a2, ← c9]
 have := h.F7 (t := x) main.1 main.2.1 main.2.2 (by rintro b (ae | ae); exact h.fA x b ae; exact fz b ae) (by rintro b (ae | ae); exact h.gF x b ae; exact bE b ae)
  (by rintro u b eg (ae | ae); exact fun hu => h.gl u x b eg hu ae; exact ca u b ae) (by rintro b (ae | ae); exact h.eA x b ae; exact a9 b ae)
 rwa [eT] at this
end
mutual
def I.cW : I → Bool
 | .slice _ => false
 | .ref _ => false
 | .fn _ _ => false
 | .h _ _ => false
 | .ax _ _ => false
 | .ae _ _ => false
 | .aw _ xs => I.hx xs
 | .a8 d => d.cW
 | .agg az => I.hx az
 | .tuple az => I.hx az
 | _ => true
def I.hx : List I → Bool
 | [] => true
 | d :: ds => d.cW && I.hx ds
end
mutual
theorem aB.cW {w : World} {F b0 : Nat → Prop} : ∀ (d : I) (cs : List Value) (S : Nat → Prop), d.cW = true → aB w F d cs S → aB w b0 d cs S
 | .hole, _, _, _, h => h
 | .bool _, _, _, _, h => h
 | .e7, _, _, _, h => h
 | .int _ _, _, _, _, h => h
 | .str _, _, _, _, h => h
 | .dC, _, _, _, h => h
 | .bc, _, _, _, h => h
 | .slice xs, cs, S, bg, h => by simp [I.cW] at bg
 | .ref d, cs, S, bg, h => by simp [I.cW] at bg
 | .aw sz xs, cs, S, bg, h => by
   rw [aB] at h ⊢
   rcases h with h | ⟨b, cap, cur, e, fr, a1, ai, aj, aQ, bd, b3, cG, cp, fR, iF, hL, k3⟩
   ·exact .inl h
   ·exact .inr ⟨b, cap, cur, e, fr, a1, ai, aj, aQ, bd, b3, cG, cp, fR, bm.cW xs _ _ bg iF, hL, k3⟩
 | .a8 d, cs, S, bg, h => by
   rw [aB] at h ⊢
   obtain ⟨b, cur, e, fr, a1, ai, aj, aQ, bd, b3, cG, cp⟩ := h
   exact ⟨b, cur, e, fr, a1, ai, aj, aQ, bd, aB.cW d _ _ bg b3, cG, cp⟩
 | .agg az, cs, S, bg, h => by rw [aB] at h ⊢; exact bm.cW az _ _ bg h
 | .tuple az, cs, S, bg, h => by rw [aB] at h ⊢; exact bm.cW az _ _ bg h
 | .fn _ _, _, _, _, h => h
 | .h _ _, _, _, _, h => h
 | .ax _ _, _, _, _, h => h
 | .ae _ _, _, _, _, h => h
theorem bm.cW {w : World} {F b0 : Nat → Prop} : ∀ (ds : List I) (cs : List Value) (S : Nat → Prop), I.hx ds = true → bm w F ds cs S → bm w b0 ds cs S
 | [], _, _, _, h => h
 | d :: ds, cs, S, bg, h => by
   simp only [I.hx, Bool.and_eq_true] at bg
   rw [bm] at h ⊢
   obtain ⟨cE, cF, ct, et, ai, aj, aQ, bd, b3, cG⟩ := h
   exact ⟨cE, cF, ct, et, ai, aB.cW d _ _ bg.1 aj, bm.cW ds _ _ bg.2 aQ, bd, b3, cG⟩
end
theorem Hh : ∀ (q : List Nat) (av d e : I), I.sub q av = some d → I.sub q (I.put q e av) = some e := by
 intro q
 induction q with
 | nil => intro av d e _; simp [I.put, I.sub]
 | cons k q ih =>
   intro av d e h
   cases av with
   | agg az =>
     simp only [I.sub] at h
     split at h
     ·rename_i x aC
      have aE : k < az.length := (List.getElem?_eq_some_iff.1 aC).1
      simp only [I.put, aC, I.sub, List.getElem?_set_self aE]
      exact ih _ _ _ h
     ·cases h
   | tuple az =>
     simp only [I.sub] at h
     split at h
     ·rename_i x aC
      have aE : k < az.length := (List.getElem?_eq_some_iff.1 aC).1
      simp only [I.put, aC, I.sub, List.getElem?_set_self aE]
      exact ih _ _ _ h
     ·cases h
   | aw sz az =>
     simp only [I.sub] at h
     split at h
     ·rename_i x aC
      have aE : k < az.length := (List.getElem?_eq_some_iff.1 aC).1
      simp only [I.put, aC, I.sub, List.getElem?_set_self aE]
      exact ih _ _ _ h
     ·cases h
   | a8 x =>
     cases k with
     | zero => simp only [I.sub] at h; simp only [I.put, I.sub]; exact ih _ _ _ h
     | succ k => simp [I.sub] at h
   | _ => simp [I.sub] at h
structure cM where
 a : I
 g : Bool
 d : I
 o : I
def I.own : I → Bool
 | .aw _ _ => true
 | .a8 _ => true
 | _ => false
def I.gA : I → Bool
 | .aw _ _ => true
 | .a8 _ => true
 | .agg az => !I.dI az
 | _ => false
def rh (d o : I) : Bool := match d, o with
 | .agg a, .agg b => I.ez a == I.ez b
 | .agg _, _ => false
 | _, .agg _ => false
 | _, _ => true
theorem p6 {d : I} (h : d.gA = true) : d.plain = false ∧ d.tree = true ∧ ∀ vs, d ≠ .tuple vs := by
 cases d <;> simp [I.gA] at h <;> first | exact ⟨rfl, rfl, fun vs e => by cases e⟩ | exact ⟨by simp only [I.plain]; exact h, rfl, fun vs e => by cases e⟩
theorem OW {d o : I} (h : d.gA = true) (cm : o.gA = true) (hl : rh d o = true) : o.wd = d.wd ∧ (∀ v, eN d v → eN o v) ∧ ∀ v, im d.di v → im o v := by
 cases d <;> simp [I.gA] at h <;> cases o <;> simp [I.gA] at cm <;> simp [rh] at hl <;> first
  | exact ⟨rfl, fun _ h => h, fun _ h => h⟩
  | exact ⟨by simp only [I.wd]; exact hl.symm, fun _ h => h, fun _ h => h⟩
def cM.ok (s : ar) (p : cM) : Prop :=
 if p.g then (match p.a with | .h x q => I.sub q (s x) = some p.d ∧ p.d.gA = true ∧ (p.o = .hole ∨ (p.o.gA = true ∧ rh p.d p.o = true)) | _ => False)
 else view s p.a = some p.d
def h9 : List cM → Bool
 | [] => true
 | p :: r => (r.all fun cz => !(p.g || cz.g) || (p.a.ah.all fun u => !cz.a.ah.contains u)) && h9 r
def cM.take (s : ar) (p : cM) : ar :=
 if p.g then (match p.a with | .h x q => dt (iG x s) x (I.put q p.d.di (s x)) | _ => s) else s
def cM.iX (s : ar) (p : cM) : ar :=
 if p.g then (match p.a, p.o with | _, .hole => s | .h x q, o => dt (lo x s) x (I.put q o (s x)) | _, _ => s) else s
def fg (s : ar) (ps : List cM) : ar := ps.foldl cM.take s
def hH (s : ar) (ps : List cM) : ar := ps.foldl cM.iX s
section
variable {w0 w aU : World} {F0 X F Fc : Nat → Prop} {S : Nat → Nat → Prop} {s aA : ar} {aF jO : Nat → Value}
def OX (w : World) (F : Nat → Prop) (s1 : ar) (aF : Nat → Value) (p : cM) (v : Value) (Sn : Nat → Prop) : Prop :=
 ∃ x q J, p.a = .h x q ∧ I.sub q (s1 x) = some p.d.di ∧ dr w q (s1 x) (cY (aF x)) none = some (p.d.di, cY v, J) ∧ (s1 x).ah = [] ∧ (q = [] → eN p.d (aF x)) ∧ (q ≠ [] → (s1 x).tree = true) ∧
   eN p.d v ∧ aB w F p.d (cY v) Sn
theorem OY {p : cM} {x : Nat} (h : (s x).ah = []) (ax : p.g = true → x ∉ p.a.ah) : cM.take s p x = s x := by
 unfold cM.take
 split
 ·rename_i b8
  cases cw : p.a with
  | h y q =>
    have : x ≠ y := by
     have := ax b8
     rw [cw] at this
     simpa [I.ah] using this
    simp only
    rw [ji _ _ this]
    exact vx _ (by rw [h]; simp)
  | _ => rfl
 ·rfl
theorem Di : ∀ {ps : List cM} {s : ar} {x : Nat}, (s x).ah = [] → (∀ p ∈ ps, p.g = true → x ∉ p.a.ah) → fg s ps x = s x := by
 intro ps
 induction ps with
 | nil => intros; rfl
 | cons p ps ih =>
   intro s x h ax
   have e := OY (s := s) (p := p) h (ax p (by simp))
   show fg (cM.take s p) ps x = s x
   rw [ih (by rw [e]; exact h) (fun cz eP => ax cz (by simp [eP])), e]
theorem po {d : I} (h : d.own = true) : d.plain = false ∧ d.tree = true ∧ d.di = .hole ∧ d.one = true ∧ d.wd = 1 ∧ (∀ v, eN d v ↔ Value.gX v = true) := by
 cases d <;> simp [I.own] at h <;> exact ⟨rfl, rfl, rfl, rfl, rfl, fun v => Iff.rfl⟩
theorem OZ : ∀ (ps : List cM) (vs : List Value) (s : ar) (S : Nat → Nat → Prop), bW w0 F0 X F S s aF w → ps.length = vs.length →
  (∀ (i : Nat) (p : cM) (v : Value), ps[i]? = some p → vs[i]? = some v → p.a.plain = true ∧ aW w F s aF p.a v (fun _ => False) ∧ (p.g = true → p.ok s)) → h9 ps = true →
  ∃ (Sn ct : Nat → Nat → Prop), bW w0 F0 X F ct (fg s ps) aF w ∧ (∀ u b, ct u b → S u b) ∧
    (∀ (i : Nat) (p : cM) (v : Value), ps[i]? = some p → vs[i]? = some v → p.g = true → OX w F (fg s ps) aF p v (Sn i)) ∧
    (∀ i b, Sn i b → ∃ p, ps[i]? = some p ∧ p.g = true) ∧
    (∀ i b, Sn i b → ∃ u, S u b) ∧ (∀ i u b, Sn i b → ¬ ct u b) ∧ (∀ i j b, i ≠ j → Sn i b → ¬ Sn j b) ∧
    (∀ (bF : I) (gz : Value) (a1 : Nat → Prop), (∀ p ∈ ps, p.g = true → ∀ u ∈ p.a.ah, u ∉ bF.ah) → aW w F s aF bF gz a1 → aW w F (fg s ps) aF bF gz a1) := by
 intro ps
 induction ps with
 | nil =>
   intro vs s S h hl _ _
   exact ⟨fun _ _ => False, S, h, fun _ _ h => h, fun i p v ax => by simp at ax, fun _ _ h => h.elim, fun _ _ h => h.elim, fun _ _ _ h => h.elim, fun _ _ _ _ h => h.elim, fun _ _ _ _ h => h⟩
 | cons p ps ih =>
   intro vs s S h hl vq kz
   cases vs with
   | nil => simp at hl
   | cons v vs =>
     simp only [List.length_cons, Nat.add_right_cancel_iff] at hl
     simp only [h9, Bool.and_eq_true, List.all_eq_true, Bool.or_eq_true, Bool.not_eq_true'] at kz
     obtain ⟨nK, m3⟩ := kz
     have ti : ∀ cz ∈ ps, (p.g = true ∨ cz.g = true) → ∀ u ∈ p.a.ah, u ∉ cz.a.ah := by
      intro cz eP b8 u hu
      rcases nK cz eP with e | e
      ·rcases b8 with b8 | b8 <;> simp [b8] at e
      ·simpa using e u hu
     obtain ⟨f1, f2, f3⟩ := vq 0 p v rfl rfl
     cases b8 : p.g with
     | false =>
       have gu : cM.take s p = s := by simp [cM.take, b8]
       obtain ⟨Sn, ct, bf, bG, cC, eH, fJ, h7, iI, k6⟩ := ih vs s S h hl (fun i cz gz ax a3 => vq (i + 1) cz gz (by simpa using ax) (by simpa using a3)) m3
       have a4 : fg s (p :: ps) = fg s ps := by show fg (cM.take s p) ps = _; rw [gu]
       rw [a4]
       refine ⟨fun i => match i with | 0 => fun _ => False | i + 1 => Sn i, ct, bf, bG, ?_, ?_, ?_, ?_, ?_, fun bF gz a1 al => k6 bF gz a1 fun cz eP => al cz (by simp [eP])⟩
       ·intro i cz gz ax a3 hG
        cases i with
        | zero => simp at ax; subst ax; rw [b8] at hG; cases hG
        | succ i => exact cC i cz gz (by simpa using ax) (by simpa using a3) hG
       ·intro i b ae
        cases i with
        | zero => exact ae.elim
        | succ i => simpa using eH i b ae
       ·intro i b ae
        cases i with
        | zero => exact ae.elim
        | succ i => exact fJ i b ae
       ·intro i u b ae
        cases i with
        | zero => exact ae.elim
        | succ i => exact h7 i u b ae
       ·intro i j b eg au cJ
        cases i with
        | zero => exact au.elim
        | succ i =>
          cases j with
          | zero => exact cJ.elim
          | succ j => exact iI i j b (by omega) au cJ
     | true =>
       have fL := f3 b8
       simp only [cM.ok, b8, if_true] at fL
       split at fL
       ·rename_i x q cw
        obtain ⟨fp, Dj, vb⟩ := fL
        obtain ⟨mv, kB, nL⟩ := p6 Dj
        have O0 : cS s p.a = some (p.d, dt (iG x s) x (I.put q p.d.di (s x))) := by
         rw [cw]; simp only [cS, fp, mv]; rfl
        obtain ⟨ct, t1, t2, t3, O1, t4, t5, t6, t7, t8, t9, t10, t11⟩ := pY h f1 f2 O0
        have gu : cM.take s p = dt (iG x s) x (I.put q p.d.di (s x)) := by simp [cM.take, b8, cw]
        have oI : ∀ cz ∈ ps, x ∉ cz.a.ah := fun cz eP => ti cz eP (.inl b8) x (by rw [cw]; simp [I.ah])
        have Dk : cM.take s p x = I.put q p.d.di (s x) := by rw [gu, lP]
        have yR : (cM.take s p x).ah = [] := by
         rw [Dk]; exact vz q _ _ _ fp (.inl mv) (fun _ => by cases al : p.d <;> first | rfl | (rw [al] at Dj; simp [I.gA] at Dj))
        obtain ⟨Sn, et, bf, bG, cC, eH, fJ, h7, iI, k6⟩ := ih vs (cM.take s p) ct (by rw [gu]; exact t1) hl (by
         intro i cz gz ax a3
         obtain ⟨b5, cu, fD⟩ := vq (i + 1) cz gz (by simpa using ax) (by simpa using a3)
         have hm : cz ∈ ps := List.mem_of_getElem? ax
         refine ⟨b5, ?_, ?_⟩
         ·have := t11 _ _ _ cu
          rw [cw] at this
          rw [gu]
          simp only [I.owner, j_] at this
          rwa [vx _ (oI cz hm)] at this
         ·intro hG
          have := fD hG
          simp only [cM.ok, hG, if_true] at this ⊢
          split at this
          ·rename_i y i6 ri
           have eg : y ≠ x := fun e => oI cz hm (by rw [ri, e]; simp [I.ah])
           rw [gu, ji _ _ eg]
           have bh := iq this.1 (.inl (p6 this.2.1).1)
           simp only [iG, Cp bh]
           exact this
          ·exact this.elim) m3
        have a4 : fg s (p :: ps) = fg (cM.take s p) ps := rfl
        have p7 : fg (cM.take s p) ps x = I.put q p.d.di (s x) := by
         rw [Di yR (fun cz eP _ => oI cz eP), Dk]
        rw [a4]
        refine ⟨fun i => match i with | 0 => O1 | i + 1 => Sn i, et, bf, fun u b ae => t9 u b (bG u b ae), ?_, ?_, ?_, ?_, ?_, ?_⟩
        rotate_left 5
        ·intro bF gz a1 al iY
         refine k6 bF gz a1 (fun cz eP => al cz (by simp [eP])) ?_
         have := t11 _ _ _ iY
         rw [cw] at this
         rw [gu]
         simp only [I.owner, j_] at this
         rwa [vx _ (al p (by simp) b8 x (by rw [cw]; simp [I.ah]))] at this
        ·intro i cz gz ax a3 hG
         cases i with
         | zero =>
           simp at ax a3; subst ax a3
           have yS := f2
           rw [cw, aW] at yS
           obtain ⟨c0, J, cE, cF, jw⟩ := yS _ fp mv
           refine ⟨x, q, J, cw, ?_, ?_, ?_, ?_, ?_, t3, t4⟩
           ·rw [p7]; exact Hh q _ _ _ fp
           ·rw [p7, cF]; exact OU w q _ _ _ _ _ _ _ fp (I.pV _) cE
           ·rw [p7, ← Dk]; exact yR
           ·intro dd; subst dd
            simp only [I.sub, Option.some.injEq] at fp
            have := (aW.da (by rw [fp]; exact kB)).1 (h.eu x)
            rw [fp] at this
            exact this.1
           ·intro dd
            have bh := iq fp (.inl mv)
            rw [p7]
            cases q with
            | nil => exact (dd rfl).elim
            | cons k q => rcases qU k q p.d.di (s x) with ⟨az, gs, a4, e⟩ | ⟨az, gs, a4, e⟩ | ⟨sz, xs, c7, a4, e⟩ | ⟨y, z, a4, e⟩ | e <;> rw [e] <;> first | rfl | exact bh
         | succ i => exact cC i cz gz (by simpa using ax) (by simpa using a3) hG
        ·intro i b ae
         cases i with
         | zero => exact ⟨p, rfl, b8⟩
         | succ i => simpa using eH i b ae
        ·intro i b ae
         cases i with
         | zero => exact t10 b ae
         | succ i => obtain ⟨u, hu⟩ := fJ i b ae; exact ⟨u, t9 u b hu⟩
        ·intro i u b ae
         cases i with
         | zero => exact fun hu => t7 u b ae (bG u b hu)
         | succ i => exact h7 i u b ae
        ·intro i j b eg au cJ
         cases i with
         | zero =>
           cases j with
           | zero => exact eg rfl
           | succ j => obtain ⟨u, hu⟩ := fJ j b cJ; exact t7 u b au hu
         | succ i =>
           cases j with
           | zero => obtain ⟨u, hu⟩ := fJ i b au; exact t7 u b cJ hu
           | succ j => exact iI i j b (by omega) au cJ
       ·exact fL.elim
end
def gd (l : List I) : ar := fun i => l.getD i .hole
def hI (l : List Value) : Nat → Value := fun i => l.getD i undef
def m4 (P : Program) (f : FuncId) (args : Array Value) (w : World) (vA : Value → World → Prop) : Prop :=
 ((callFunc f args).run P w = .ok (.enter f args) w ∧ Calls P f args w (fun e aU => ∃ v, e = .returned v ∧ vA v aU)) ∨
 ∃ v aU, (callFunc f args).run P w = .ok (.value v) aU ∧ vA v aU
theorem m4.mono {P : Program} {f : FuncId} {args : Array Value} {w : World} {vA Hi : Value → World → Prop} (h : m4 P f args w vA) (a7 : ∀ v aU, vA v aU → Hi v aU) : m4 P f args w Hi := by
 rcases h with ⟨ai, aj⟩ | ⟨v, aU, ai, aj⟩
 ·exact .inl ⟨ai, Calls.mono aj fun e aU ⟨v, e, h⟩ => ⟨v, e, a7 v aU h⟩⟩
 ·exact .inr ⟨v, aU, ai, a7 v aU aj⟩
def aR (C : ck) (f : FuncId) (as : List I) (r : I) (outs : List I) : Prop :=
 ∀ (w : World) (F X : Nat → Prop) (S : Nat → Nat → Prop) (vs : List Value), vs.length = as.length → bW w F X F S (gd as) (hI vs) w →
   m4 C.P f vs.toArray w fun v aU => ∃ b0 a1, bW w F X b0 a1 (gd (r :: outs)) (hI (v :: vs)) aU
def I.res : I → Bool
 | .h _ _ => false
 | .ax _ _ => false
 | .ae _ _ => false
 | .fn _ _ => false
 | _ => true
theorem Dl {d : I} (h : d.tree = true) : d.ah = [] := by cases d <;> first | rfl | (simp [I.tree] at h)
mutual
theorem Dm {s aA : ar} : ∀ (a : I) (d : I), (∀ u ∈ a.ah, (s u).tree = true → aA u = s u) → view s a = some d → view aA a = some d
 | .h x q, d, hu, h => by
   have bh : (s x).tree = true := by
    simp only [view] at h
    split at h
    ·rename_i e fp
     cases e <;> simp only at h <;> first
      | (cases h; done)
      | (split at h
         ·cases h
         ·rename_i ax
          exact iq fp (.inl (by simpa using ax)))
    ·cases h
   simp only [view] at h ⊢
   rw [hu x (by simp [I.ah]) bh]; exact h
 | .ax x q, d, hu, h => by
   have bh : (s x).tree = true := by
    simp only [view] at h
    split at h
    ·rename_i ay
     split at h
     ·rename_i e fp; exact iq fp (.inr ay)
     ·cases h
    ·cases h
   simp only [view] at h ⊢
   rw [hu x (by simp [I.ah]) bh]; exact h
 | .ae x q, d, hu, h => by simp [view] at h
 | .fn f cap, d, hu, h => by
   simp only [view, Option.map_eq_some_iff] at h ⊢
   obtain ⟨ds, ai, aj⟩ := h
   exact ⟨ds, Hj cap ds (by simpa [I.ah] using hu) ai, aj⟩
 | .hole, d, hu, h => h
 | .bool _, d, hu, h => h
 | .e7, d, hu, h => h
 | .int _ _, d, hu, h => h
 | .str _, d, hu, h => h
 | .dC, d, hu, h => h
 | .bc, d, hu, h => h
 | .slice _, d, hu, h => h
 | .aw _ _, d, hu, h => h
 | .ref _, d, hu, h => h
 | .a8 _, d, hu, h => h
 | .agg _, d, hu, h => h
 | .tuple _, d, hu, h => h
theorem Hj {s aA : ar} : ∀ (as : List I) (ds : List I), (∀ u ∈ I.ea as, (s u).tree = true → aA u = s u) → views s as = some ds → views aA as = some ds
 | [], ds, hu, h => h
 | a :: as, ds, hu, h => by
   simp only [I.ea, List.mem_append] at hu
   simp only [views] at h ⊢
   split at h
   ·rename_i x y ai aj
    rw [Dm a x (fun u hm => hu u (.inl hm)) ai, Hj as y (fun u hm => hu u (.inr hm)) aj]; exact h
   ·cases h
end
section
variable {C : ck} {w0 w aU : World} {F0 X F Fc : Nat → Prop} {S : Nat → Nat → Prop} {s aA : ar} {aF jO : Nat → Value}
def O2 (w : World) (F : Nat → Prop) (s : ar) (aF : Nat → Value) (p : cM) (v : Value) (m5 : Nat → Prop) : Prop :=
 p.g = true → p.o = .hole ∨ ∃ x q J d0, p.a = .h x q ∧ I.sub q (s x) = some d0 ∧ dr w q (s x) (cY (aF x)) none = some (d0, cY v, J) ∧ (s x).ah = [] ∧
  (q = [] → eN p.o (aF x)) ∧ (q ≠ [] → (s x).tree = true) ∧ p.o.gA = true ∧ aB w F p.o (cY v) m5 ∧ p.o.wd = d0.wd ∧ ∀ v, im d0 v → im p.o v
theorem O3 : ∀ (ps : List cM) (vs : List Value) (s : ar) (S m5 : Nat → Nat → Prop), bW w0 F0 X F S s aF w → ps.length = vs.length →
  (∀ (i : Nat) (p : cM) (v : Value), ps[i]? = some p → vs[i]? = some v → O2 w F s aF p v (m5 i)) →
  (∀ i b, m5 i b → b < w.heap.size ∧ ¬ F b ∧ (X b ∨ w0.heap.size ≤ b) ∧ ∀ u, ¬ S u b) → (∀ i j b, i ≠ j → m5 i b → ¬ m5 j b) → h9 ps = true →
  ∃ et, bW w0 F0 X F et (hH s ps) aF w ∧ ∀ u b, et u b → S u b ∨ ∃ i, m5 i b := by
 intro ps
 induction ps with
 | nil => intro vs s S m5 h _ _ _ _ _; exact ⟨S, h, fun u b ae => .inl ae⟩
 | cons p ps ih =>
   intro vs s S m5 h hl Dn ae al kz
   cases vs with
   | nil => simp at hl
   | cons v vs =>
     simp only [List.length_cons, Nat.add_right_cancel_iff] at hl
     simp only [h9, Bool.and_eq_true, List.all_eq_true, Bool.or_eq_true, Bool.not_eq_true'] at kz
     obtain ⟨nK, m3⟩ := kz
     have ti : ∀ cz ∈ ps, (p.g = true ∨ cz.g = true) → ∀ u ∈ p.a.ah, u ∉ cz.a.ah := by
      intro cz eP b8 u hu
      rcases nK cz eP with e | e
      ·rcases b8 with b8 | b8 <;> simp [b8] at e
      ·simpa using e u hu
     have skip : cM.iX s p = s → ∃ et, bW w0 F0 X F et (hH s (p :: ps)) aF w ∧ ∀ u b, et u b → S u b ∨ ∃ i, m5 i b := by
      intro gu
      obtain ⟨et, bf, bG⟩ := ih vs s S (fun i => m5 (i + 1)) h hl (fun i cz gz ax a3 => Dn (i + 1) cz gz (by simpa using ax) (by simpa using a3)) (fun i b h => ae (i + 1) b h)
       (fun i j b eg => al (i + 1) (j + 1) b (by omega)) m3
      refine ⟨et, ?_, fun u b hu => (bG u b hu).imp id fun ⟨i, au⟩ => ⟨i + 1, au⟩⟩
      show bW _ _ _ _ _ (hH (cM.iX s p) ps) _ _
      rw [gu]; exact bf
     cases b8 : p.g with
     | false => exact skip (by simp [cM.iX, b8])
     | true =>
       rcases Dn 0 p v rfl rfl b8 with cm | ⟨x, q, J, d0, cw, cE, cF, jw, lR, pq, Dp, Dq, O4, Dr⟩
       ·exact skip (by simp only [cM.iX, b8, cm, if_true])
       ·obtain ⟨mv, kB, p8⟩ := p6 Dp
        have gu : cM.iX s p = dt (lo x s) x (I.put q p.o (s x)) := by
         simp only [cM.iX, b8, if_true, cw]
         cases O5 : p.o <;> first | rfl | (rw [O5] at Dp; simp [I.gA] at Dp)
        have step := h.iX (x := x) (q := q) (bF := p.o) cE cF p8 (fun dd => ⟨kB, lR dd⟩) (fun k r dd => ⟨pq (by rw [dd]; simp), Dr⟩) O4 Dq
         (fun b h => (ae 0 b h).1) (fun b h => (ae 0 b h).2.1) (fun u b h => (ae 0 b h).2.2.2 u) (fun b h => (ae 0 b h).2.2.1)
        rw [← gu] at step
        obtain ⟨et, bf, bG⟩ := ih vs (cM.iX s p) _ (fun i => m5 (i + 1)) step hl (by
         intro i cz gz ax a3 hG
         have hm : cz ∈ ps := List.mem_of_getElem? ax
         rcases Dn (i + 1) cz gz (by simpa using ax) (by simpa using a3) hG with cm | ⟨y, i6, ab, d1, b5, cu, fD, eO, gr, dE, jW, gb, lv⟩
         ·exact .inl cm
         ·have eg : y ≠ x := fun e => ti cz hm (.inl b8) x (by rw [cw]; simp [I.ah]) (by rw [b5, e]; simp [I.ah])
          have mn : cM.iX s p y = s y := by
           rw [gu, ji _ _ eg]
           exact C7 _ (by rw [eO]; simp)
          exact .inr ⟨y, i6, ab, d1, b5, by rw [mn]; exact cu, by rw [mn]; exact fD, by rw [mn]; exact eO, gr, by rw [mn]; exact dE, jW, gb, lv⟩)
         (by
          intro i b au
          obtain ⟨ly, iW, lz, ba⟩ := ae (i + 1) b au
          refine ⟨ly, iW, lz, fun u hu => ?_⟩
          simp only [gp] at hu
          split at hu
          ·rcases hu with hu | hu
           ·exact ba _ hu
           ·exact al 0 (i + 1) b (by omega) hu au
          ·exact ba _ hu)
         (fun i j b eg => al (i + 1) (j + 1) b (by omega)) m3
        refine ⟨et, bf, fun u b hu => ?_⟩
        rcases bG u b hu with hu | ⟨i, au⟩
        ·simp only [gp] at hu
         split at hu
         ·rename_i e; subst e
          exact hu.imp id fun h => ⟨0, h⟩
         ·exact .inl hu
        ·exact .inr ⟨i + 1, au⟩
def jx (ps : List cM) : Bool := ps.any fun p => !p.g && !p.a.ah.isEmpty
theorem Hk (h : bW w0 F0 X F S s aF w) {ps : List cM} {vs : List Value} {f : FuncId} {r : I} (hl : ps.length = vs.length)
  (iY : ∀ (i : Nat) (p : cM) (v : Value), ps[i]? = some p → vs[i]? = some v → p.a.plain = true ∧ aW w F s aF p.a v (fun _ => False))
  (fL : ∀ p ∈ ps, p.ok s) (kz : h9 ps = true) (bH : ∀ (Fc lB : Nat → Prop) (e3 : Nat → Nat → Prop), (∀ b, F b → Fc b) → (∀ b, lB b → ∃ u, S u b) → bW w Fc lB Fc e3 (gd (ps.map (·.d))) (hI vs) w →
   m4 C.P f vs.toArray w fun v aU => ∃ b0 a1, bW w Fc lB b0 a1 (gd (r :: ps.map (·.o))) (hI (v :: vs)) aU) (a7 : r.res = true)
  (bg : jx ps = true → r.cW = true ∧ ∀ p ∈ ps, p.o.cW = true) :
  m4 C.P f vs.toArray w fun v aU => ∃ b0 a1, bW w0 F0 X b0 a1 (hH (fg s ps) ps) aF aU ∧ kM w0 X b0 a1 (hH (fg s ps) ps) aF aU r v ∧ ∀ b, F b → b0 b ∧ aU.heap[b]? = w.heap[b]? := by
 obtain ⟨Sn, ct, bf, bG, cC, eH, fJ, h7, iI, k6⟩ := OZ ps vs s S h hl (fun i p v ax a3 => ⟨(iY i p v ax a3).1, (iY i p v ax a3).2, fun _ => fL p (List.mem_of_getElem? ax)⟩) kz
 have apart : ∀ (i j : Nat) (p cz : cM), ps[i]? = some p → ps[j]? = some cz → i ≠ j → (p.g = true ∨ cz.g = true) → ∀ u ∈ p.a.ah, u ∉ cz.a.ah := by
  clear iY fL bH bg bf cC eH k6 hl
  induction ps with
  | nil => intro i j p cz ax; simp at ax
  | cons h3 ps ih =>
    simp only [h9, Bool.and_eq_true, List.all_eq_true, Bool.or_eq_true, Bool.not_eq_true'] at kz
    obtain ⟨nK, m3⟩ := kz
    have ti : ∀ cz ∈ ps, (h3.g = true ∨ cz.g = true) → ∀ u ∈ h3.a.ah, u ∉ cz.a.ah := by
     intro cz eP b8 u hu
     rcases nK cz eP with e | e
     ·rcases b8 with b8 | b8 <;> simp [b8] at e
     ·simpa using e u hu
    intro i j p cz ax eP eg b8 u hu
    cases i with
    | zero =>
      simp at ax; subst ax
      cases j with
      | zero => exact (eg rfl).elim
      | succ j => exact ti cz (List.mem_of_getElem? (by simpa using eP)) b8 u hu
    | succ i =>
      cases j with
      | zero =>
        simp at eP; subst eP
        exact fun vB => ti p (List.mem_of_getElem? (by simpa using ax)) b8.symm u vB hu
      | succ j => exact ih m3 i j p cz (by simpa using ax) (by simpa using eP) (by omega) b8 u hu
 let Fc : Nat → Prop := fun b => F b ∨ (jx ps = true ∧ ∃ u, ct u b)
 let lB : Nat → Prop := fun b => ∃ i, Sn i b
 have Ds : ∀ b, F b → ¬ lB b := fun b bE ⟨i, au⟩ => by obtain ⟨u, hu⟩ := fJ i b au; exact h.gF u b hu bE
 have vC : ∀ u b, ct u b → ¬ lB b := fun u b hu ⟨i, au⟩ => h7 i u b au hu
 have yT : ∀ b, lB b → (X b ∨ w0.heap.size ≤ b) ∧ b < w.heap.size := fun b ⟨i, au⟩ => by obtain ⟨u, hu⟩ := fJ i b au; exact ⟨h.eA u b hu, h.fA u b hu⟩
 have pre : bW w Fc lB Fc Sn (gd (ps.map (·.d))) (hI vs) w := by
  refine ⟨fun _ h => h, fun _ h => .inl h, ?_, fun i b au => (yT b ⟨i, au⟩).2, ?_, fun i j b eg => iI i j b eg, fun i b au => .inl ⟨i, au⟩, ?_, fun _ _ _ => rfl, Nat.le_refl _, rfl, rfl, rfl⟩
  ·rintro b (ae | ⟨_, u, hu⟩)
   ·exact h.gy b ae
   ·exact bf.fA u b hu
  ·rintro i b au (ae | ⟨_, u, hu⟩)
   ·exact Ds b ae ⟨i, au⟩
   ·exact h7 i u b au hu
  ·intro t
   cases ax : ps[t]? with
   | none =>
     have : gd (ps.map (·.d)) t = .hole := by simp [gd, List.getD, ax]
     rw [this, aW]; trivial
   | some p =>
     have fz : t < vs.length := by rw [← hl]; exact (List.getElem?_eq_some_iff.1 ax).1
     have a3 : vs[t]? = some vs[t] := List.getElem?_eq_getElem fz
     have a4 : gd (ps.map (·.d)) t = p.d := by simp [gd, List.getD, ax]
     have a_ : hI vs t = vs[t] := by simp [hI, List.getD, a3]
     rw [a4, a_]
     have hm : p ∈ ps := List.mem_of_getElem? ax
     have aE := fL p hm
     cases b8 : p.g with
     | true =>
       obtain ⟨x, q, J, b5, cu, fD, eO, gr, dE, jW, gb⟩ := cC t p _ ax a3 b8
       simp only [cM.ok, b8, if_true, b5] at aE
       exact (aW.da (p6 aE.2.1).2.1).2 ⟨jW, aB.mono (fun b ae => .inl ae) _ _ _ _ (fun _ h => h) gb⟩
     | false =>
       simp only [cM.ok, b8] at aE
       obtain ⟨f1, f2⟩ := iY t p _ ax a3
       have Hl : ∀ cz ∈ ps, cz.g = true → ∀ u ∈ cz.a.ah, u ∉ p.a.ah := by
        intro cz eP hG u hu
        obtain ⟨j, cJ⟩ := List.getElem?_of_mem eP
        refine apart j t cz p cJ ax (fun e => ?_) (.inl hG) u hu
        subst e; rw [ax] at cJ; simp only [Option.some.injEq] at cJ; rw [cJ, hG] at b8; cases b8
       have yS := k6 _ _ _ Hl f2
       have kx : view (fg s ps) p.a = some p.d := Dm _ _ (fun u hu bh => Di (Dl bh) (fun cz eP hG vB => Hl cz eP hG u vB hu)) (by simpa using aE)
       refine aW.nothing (OT f1 kx) ((OV bf (Fc := Fc) (fun b ae => .inl ae) (SizeOf.sizeOf p.a)).1 p.a _ p.d (Nat.le_refl _) ?_ kx yS)
       intro u hu b ae
       refine .inr ⟨?_, u, ae⟩
       simp only [jx, List.any_eq_true]
       refine ⟨p, hm, ?_⟩
       cases kL : p.a.ah with
       | nil => rw [kL] at hu; cases hu
       | cons _ _ => simp [b8]
 refine m4.mono (bH Fc lB Sn (fun b ae => .inl ae) (fun b ⟨i, au⟩ => fJ i b au) pre) ?_
 rintro v aU ⟨b0, a1, ay⟩
 have fh : ∀ b, b < w.heap.size → ¬ lB b → aU.heap[b]? = w.heap[b]? := ay.old
 let nM : Nat → Prop := fun b => if jx ps = true then F b else b0 b
 have Hm : ∀ b, F b → b0 b := fun b ae => ay.hM b (.inl ae)
 have tj : ∀ b, F b → nM b := fun b ae => by
  simp only [nM]; split
  ·exact ae
  ·exact Hm b ae
 have rj : ∀ b, nM b → b0 b := fun b ae => by
  simp only [nM] at ae; split at ae
  ·exact Hm b ae
  ·exact ae
 have Hn : ∀ b, nM b → F b ∨ lB b ∨ w.heap.size ≤ b := fun b ae => by
  simp only [nM] at ae; split at ae
  ·exact .inl ae
  ·rename_i p5
   rcases ay.h5 b ae with (ae | ⟨ai, _⟩) | ae | ae
   ·exact .inl ae
   ·exact (p5 ai).elim
   ·exact .inr (.inl ae)
   ·exact .inr (.inr ae)
 have mid : bW w0 F0 X nM ct (fg s ps) aF aU := by
  refine ⟨fun b ae => tj b (bf.hM b ae), ?_, fun b ae => ay.gy b (rj b ae), fun t b ae => Nat.lt_of_lt_of_le (bf.fA t b ae) ay.size, ?_, bf.gl, bf.eA, ?_, ?_, Nat.le_trans bf.size ay.size, ay.os.trans bf.os, ay.tape.trans bf.tape, ay.output.trans bf.output⟩
  ·intro b ae
   rcases Hn b ae with ae | ae | ae
   ·exact bf.h5 b ae
   ·rcases (yT b ae).1 with h | h
    ·exact .inr (.inl h)
    ·exact .inr (.inr h)
   ·exact .inr (.inr (Nat.le_trans bf.size ae))
  ·intro t b bh ae
   rcases Hn b ae with ae | ae | ae
   ·exact bf.gF t b bh ae
   ·exact vC t b bh ae
   ·exact absurd (bf.fA t b bh) (by omega)
  ·intro t
   exact aW.frame (Sx := ct) (fun b ae => fh b (h.gy b ae) (Ds b ae)) tj (fun x b ae => fh b (bf.fA x b ae) (vC x b ae)) bf.eu _ _ _ (fun b ae => fh b (bf.fA t b ae) (vC t b ae)) (bf.eu t)
  ·intro b ae kK
   refine (fh b (Nat.lt_of_lt_of_le ae bf.size) fun aC => ?_).trans (bf.old b ae kK)
   rcases (yT b aC).1 with h | h
   ·exact kK h
   ·omega
 have Ho : ∀ (d : I) (cs : List Value) (eA : Nat → Prop), (jx ps = true → d.cW = true) → aB aU b0 d cs eA → aB aU nM d cs eA := by
  intro d cs eA CW jm
  by_cases hle : jx ps = true
  ·exact aB.cW d cs eA (CW hle) jm
  ·exact aB.mono (fun b ae => by simp only [nM]; rw [if_neg hle]; exact ae) _ _ _ _ (fun _ h => h) jm
 have bound : ∀ i b, a1 i b → b < aU.heap.size ∧ ¬ nM b ∧ (X b ∨ w0.heap.size ≤ b) ∧ ∀ u, ¬ ct u b := by
  intro i b ae
  refine ⟨ay.fA i b ae, fun bE => ay.gF i b ae (rj b bE), ?_, fun u hu => ?_⟩
  ·rcases ay.eA i b ae with aC | aC
   ·exact (yT b aC).1
   ·exact .inr (Nat.le_trans bf.size aC)
  ·rcases ay.eA i b ae with aC | aC
   ·exact vC u b hu aC
   ·exact absurd (bf.fA u b hu) (by omega)
 obtain ⟨et, b5, cu⟩ := O3 ps vs (fg s ps) ct (fun i => a1 (i + 1)) mid hl (by
  intro i p gz ax a3 b8
  have hm : p ∈ ps := List.mem_of_getElem? ax
  have aE := fL p hm
  obtain ⟨x, q, J, a4, a_, a2, c1, c9, cl, cf, hN⟩ := cC i p gz ax a3 b8
  simp only [cM.ok, b8, if_true, a4] at aE
  rcases aE.2.2 with cm | cm
  ·exact .inl cm
  ·obtain ⟨hP, l2, vD⟩ := OW aE.2.1 cm.1 cm.2
   refine .inr ⟨x, q, J, p.d.di, a4, a_, ?_, c1, fun dd => l2 _ (c9 dd), cl, cm.1, ?_, hP.trans (I.pV _).symm, vD⟩
   ·cases q with
    | nil => simpa only [dr] using a2
    | cons k q =>
      have bh := cl (by simp)
      rw [Cm (k :: q) _ _ (ct x) none _ ((aW.da bh).1 (bf.eu x)).2 a_ (fun b ae => fh b (bf.fA x b ae) (vC x b ae))]
      exact a2
   ·have := ay.eu (i + 1)
    have ku : gd (r :: ps.map (·.o)) (i + 1) = p.o := by simp [gd, List.getD, ax]
    have lr : hI (v :: vs) (i + 1) = gz := by simp [hI, List.getD, a3]
    rw [ku, lr] at this
    exact Ho _ _ _ (fun hle => (bg hle).2 p hm) ((aW.da (p6 cm.1).2.1).1 this).2)
  (fun i b ae => bound (i + 1) b ae) (fun i j b eg => ay.gl (i + 1) (j + 1) b (by omega)) kz
 refine ⟨nM, et, b5, ?_, fun b ae => ⟨tj b ae, fh b (h.gy b ae) (Ds b ae)⟩⟩
 have a9 := ay.eu 0
 have ku : gd (r :: ps.map (·.o)) 0 = r := rfl
 have lr : hI (v :: vs) 0 = v := rfl
 rw [ku, lr] at a9
 cases bh : r.tree with
 | false =>
   cases r <;> first
    | (simp [I.tree] at bh; done)
    | (simp [I.res] at a7; done)
    | exact .inl ⟨rfl, by rw [aW]; trivial⟩
 | true =>
   obtain ⟨s1, s2⟩ := (aW.da bh).1 a9
   have e6 := Ho _ _ _ (fun hle => (bg hle).1) s2
   refine .inr ⟨bh, s1, a1 0, e6, fun b ae => (bound 0 b ae).1, fun b ae => (bound 0 b ae).2.1, fun u b ae hu => ?_, fun b ae => (bound 0 b ae).2.2.1⟩
   rcases cu u b hu with hu | ⟨i, au⟩
   ·exact (bound 0 b ae).2.2.2 u hu
   ·exact ay.gl 0 (i + 1) b (by omega) ae au
theorem O6 (h : bW w0 F0 X F S s aF w) {ps : List cM} {vs : List Value} {f : FuncId} {r : I} (hl : ps.length = vs.length)
  (iY : ∀ (i : Nat) (p : cM) (v : Value), ps[i]? = some p → vs[i]? = some v → p.a.plain = true ∧ aW w F s aF p.a v (fun _ => False))
  (fL : ∀ p ∈ ps, p.ok s) (kz : h9 ps = true) (bH : aR C f (ps.map (·.d)) r (ps.map (·.o))) (a7 : r.res = true)
  (bg : jx ps = true → r.cW = true ∧ ∀ p ∈ ps, p.o.cW = true) :
  m4 C.P f vs.toArray w fun v aU => ∃ b0 a1, bW w0 F0 X b0 a1 (hH (fg s ps) ps) aF aU ∧ kM w0 X b0 a1 (hH (fg s ps) ps) aF aU r v ∧ ∀ b, F b → b0 b ∧ aU.heap[b]? = w.heap[b]? :=
 Hk h hl iY fL kz (fun Fc lB e3 _ _ ax => bH w Fc lB e3 vs (by simp [hl]) ax) a7 bg
end
structure cK where
 dst : Option Nat
 bN : ga
 guard : Option (Nat × Bool)
def vE (ops : Array Oper) : Option (Nat × Bool) → Option (Option (Nat × Bool))
 | none => some none
 | some (j, b) => match (ops[j]?).bind (·.dst) with
   | some t => some (some (t, b))
   | none => none
structure Fr where
 n : Nat
 fx : List Nat
def kR (n : Fr) : Option Nat → Bool
 | none => true
 | some t => decide (t < n.n) && !n.fx.contains t
def nN (op : Op) : ga := match dj op with
 | some bN => bN
 | none => .bad
def oJ (n : Fr) (ops : Array Oper) (o : Oper) : Option cK :=
 if kR n o.dst = true then match vE ops o.guard with
  | some g => some ⟨o.dst, nN o.op, g⟩
  | none => none
 else none
def oK (n : Fr) (ops : Array Oper) : List Oper → Option (List cK)
 | [] => some []
 | o :: os => match oJ n ops o, oK n ops os with
   | some r, some rs => some (r :: rs)
   | _, _ => none
def yU (C : ck) (s : ar) (f : aI) (args : List aI) (K : I → ar → Prop) : Prop :=
 ∃ (g : FuncId) (caps : List I) (ps : List cM) (r : I), aS s f = .fn g caps ∧ I.dI caps = true ∧ ps.map (·.a) = args.map (aS s) ++ caps ∧ (∀ p ∈ ps, p.ok s) ∧ h9 ps = true ∧
   aR C g (ps.map (·.d)) r (ps.map (·.o)) ∧ r.res = true ∧ (jx ps = true → r.cW = true ∧ ∀ p ∈ ps, p.o.cW = true) ∧ K r (hH (fg s ps) ps)
mutual
def I.fT (s : ar) : I → Bool
 | .h x q => q.isEmpty && (s x).own
 | .ae x _ => !(s x).plain
 | .ax _ _ => false
 | .hole => true
 | .fn _ cap => I.m6 s cap
 | d => d.plain
def I.m6 (s : ar) : List I → Bool
 | [] => true
 | d :: ds => d.fT s && I.m6 s ds
end
def lW (s : ar) : List (Nat × I) → ar
 | [] => s
 | p :: L => lW (dt s p.1 p.2) L
def kS (s : ar) : List (Nat × I) → Bool
 | [] => true
 | p :: L => p.2.fT s && kS s L
def iZ (s : ar) (us : List Nat) : List (Nat × I) := us.map fun u => (u, s u)
def m7 (C : ck) (s : ar) (bN : ga) (K : I → ar → Prop) : Prop :=
 match bN with
 | .call f args => ∃ (g : FuncId) (caps : List I) (ps : List cM) (r : I), aS s f = .fn g caps ∧ I.dI caps = true ∧ ps.map (·.a) = args.map (aS s) ++ caps ∧ (∀ p ∈ ps, p.ok s) ∧ h9 ps = true ∧
   aR C g (ps.map (·.d)) r (ps.map (·.o)) ∧ r.res = true ∧ (jx ps = true → r.cW = true ∧ ∀ p ∈ ps, p.o.cW = true) ∧ K r (hH (fg s ps) ps)
 | .shr bN => ∃ av s1, bX C s bN = some (av, s1) ∧ av.tree = true ∧ (∀ vs, av ≠ .tuple vs) ∧ K av.share s1
 | .lT f args u x => s u = .h x [] ∧ (s x).own = true ∧ yU C s f args fun av s1 => s1 u = .hole ∧ (s1 x).own = true ∧ K av (dt s1 u (.h x []))
 | .jX f args us => kS s (iZ s us) = true ∧ yU C s f args fun av s1 => kS s1 (iZ s us) = true ∧ K av (lW s1 (iZ s us))
 | bN => ∃ av s1, bX C s bN = some (av, s1) ∧ K av s1
theorem yV {C : ck} {s : ar} {bN : ga} {K du : I → ar → Prop} (h : m7 C s bN K) (aE : ∀ av s, K av s → du av s) : m7 C s bN du := by
 cases bN with
 | call f args =>
   obtain ⟨g, caps, ps, r, ai, gf, aj, aQ, bd, b3, cG, cp, fR⟩ := h
   exact ⟨g, caps, ps, r, ai, gf, aj, aQ, bd, b3, cG, cp, aE _ _ fR⟩
 | shr bN =>
   obtain ⟨av, s1, ai, aj, aQ, bd⟩ := h
   exact ⟨av, s1, ai, aj, aQ, aE _ _ bd⟩
 | lT f args u x =>
   obtain ⟨b5, cu, g, caps, ps, r, ai, gf, aj, aQ, bd, b3, cG, cp, fR, iF, hL⟩ := h
   exact ⟨b5, cu, g, caps, ps, r, ai, gf, aj, aQ, bd, b3, cG, cp, fR, iF, aE _ _ hL⟩
 | jX f args us =>
   obtain ⟨cu, g, caps, ps, r, ai, gf, aj, aQ, bd, b3, cG, cp, fR, iF⟩ := h
   exact ⟨cu, g, caps, ps, r, ai, gf, aj, aQ, bd, b3, cG, cp, fR, aE _ _ iF⟩
 | _ =>
   obtain ⟨av, s1, ai, aj⟩ := h
   exact ⟨av, s1, ai, aE _ _ aj⟩
def k9 (C : ck) (s : ar) (o : cK) (K : ar → Prop) : Prop :=
 match o.guard with
 | none => m7 C s o.bN fun av s1 => K (fin s1 o.dst av)
 | some (t, b) => match s t with
   | .bool fY => if fY = b then m7 C s o.bN (fun av s1 => K (fin s1 o.dst av)) else K (fin s o.dst (.tuple []))
   | .tuple [] => K (fin s o.dst (.tuple []))
   | _ => False
def kT (C : ck) (s : ar) : List cK → (ar → Prop) → Prop
 | [], K => K s
 | o :: os, K => k9 C s o fun s1 => kT C s1 os K
def jy (C : ck) (ros : List cK) (s : ar) : List Nat → (ar → Prop) → Prop
 | [], K => K s
 | i :: l, K => match ros[i]? with
   | none => jy C ros s l K
   | some o => k9 C s o fun s1 => jy C ros s1 l K
theorem O7 (C : ck) (K : ar → Prop) : ∀ (rs pre : List cK) (s : ar), kT C s rs K → jy C (pre ++ rs) s ((List.range rs.length).map (· + pre.length)) K := by
 intro rs
 induction rs with
 | nil => intro pre s h; exact h
 | cons r rs ih =>
   intro pre s h
   rw [List.length_cons, List.range_succ_eq_map, List.map_cons, List.map_map]
   simp only [jy, Nat.zero_add]
   rw [List.getElem?_append_right (Nat.le_refl _)]
   simp only [Nat.sub_self, List.getElem?_cons_zero]
   have key : ∀ s1, kT C s1 rs K → jy C (pre ++ r :: rs) s1 ((List.range rs.length).map ((fun x => x + pre.length) ∘ Nat.succ)) K := by
    intro s1 ai
    have := ih (pre ++ [r]) s1 ai
    simp only [List.append_assoc, List.singleton_append, List.length_append, List.length_singleton] at this
    have e : ((fun x => x + pre.length) ∘ Nat.succ) = fun x => x + (pre.length + 1) := by funext x; simp; omega
    rw [e]; exact this
   simp only [kT] at h
   unfold k9 at h ⊢
   split
   ·rename_i b8; rw [b8] at h; exact yV h fun av s1 => key _
   ·rename_i t b b8
    rw [b8] at h
    simp only at h
    split
    ·rename_i fY ah
     rw [ah] at h
     simp only at h
     split
     ·rename_i ae; rw [if_pos ae] at h; exact yV h fun av s1 => key _
     ·rename_i ae; rw [if_neg ae] at h; exact key _ h
    ·rename_i ah; rw [ah] at h; exact key _ h
    ·rename_i ai aj
     split at h
     ·exact ai _ (by assumption)
     ·exact aj (by assumption)
     ·exact h
structure Rel (w0 : World) (F0 X : Nat → Prop) (n : Fr) (ρ : Nat → Value) (s : ar) (a : Act) (w : World) : Prop where
 defers : a.defers = []
 size : a.tmps.size = n.n
 fixed : ∀ i ∈ n.fx, a.tmps.getD i undef = ρ i
 rel : ∃ F S, bW w0 F0 X F S s (fun t => a.tmps.getD t undef) w
section
variable {C : ck} {w0 w : World} {F0 X : Nat → Prop} {n : Fr} {ρ : Nat → Value} {s s1 : ar} {a : Act} {av : I} {Q : Exit → Act → World → Prop}
theorem vF {dst : Option Nat} (v : Value) (ah : a.tmps.size = n.n) (al : kR n dst = true) :
  (fun t => (a.put dst v).tmps.getD t undef) = nz (fun t => a.tmps.getD t undef) dst v ∧ (a.put dst v).tmps.size = n.n ∧ (a.put dst v).defers = a.defers := by
 cases dst with
 | none => exact ⟨rfl, ah, rfl⟩
 | some d =>
   simp only [kR, Bool.and_eq_true, decide_eq_true_eq] at al
   refine ⟨?_, by simp [Act.put, ah], rfl⟩
   funext t
   simp only [Act.put, nz, dt, Array.getD_eq_getD_getElem?]
   by_cases h : t = d
   ·subst h
    rw [if_pos rfl, Array.getElem?_setIfInBounds_self_of_lt (by omega)]; rfl
   ·rw [if_neg h, Array.getElem?_setIfInBounds_ne (fun e => h e.symm)]
theorem Rel.put {F S} (al : a.defers = []) (ah : a.tmps.size = n.n) (bH : ∀ i ∈ n.fx, a.tmps.getD i undef = ρ i) {aU : World} (a7 : bW w0 F0 X F S s (fun t => a.tmps.getD t undef) aU) {v : Value} (a3 : kM w0 X F S s (fun t => a.tmps.getD t undef) aU av v)
  {dst : Option Nat} (fL : kR n dst = true) : Rel w0 F0 X n ρ (fin s dst av) (a.put dst v) aU := by
 obtain ⟨a4, a_, a2⟩ := vF (n := n) (dst := dst) v ah fL
 obtain ⟨a1, bD⟩ := a7.fin a3 dst
 refine ⟨a2.trans al, a_, fun i au => ?_, F, a1, by rw [a4]; exact bD⟩
 rw [congrFun a4 i]
 cases dst with
 | none => exact bH i au
 | some d =>
   simp only [kR, Bool.and_eq_true, Bool.not_eq_true', List.contains_eq_mem, decide_eq_false_iff_not] at fL
   have eg : i ≠ d := fun e => fL.2 (by rw [← e]; exact au)
   simp only [nz]
   rw [ji _ _ eg]
   exact bH i au
theorem Rel.skip (h : Rel w0 F0 X n ρ s a w) {dst : Option Nat} (fL : kR n dst = true) : Rel w0 F0 X n ρ (fin s dst (.tuple [])) (a.put dst undef) w := by
 obtain ⟨al, ah, bH, F, S, a7⟩ := h
 refine Rel.put (av := .tuple []) al ah bH a7 (.inl ⟨rfl, (aW.da (d := .tuple []) rfl).2 ⟨?_, ?_⟩⟩) fL
 ·exact ⟨#[], rfl, rfl, fun k d x aE => by simp at aE⟩
 ·rw [aB, bm]; rfl
theorem Hp {F : Nat → Prop} {aF : Nat → Value} {w : World} : ∀ {ds es : List I} {vs us : List Value}, eY w F s aF ds vs → eY w F s aF es us → eY w F s aF (ds ++ es) (vs ++ us) := by
 intro ds
 induction ds with
 | nil => intro es vs us ai aj; rw [eY] at ai; subst ai; exact aj
 | cons d ds ih =>
   intro es vs us ai aj
   rw [eY] at ai
   obtain ⟨v, j9, rfl, bf, bG⟩ := ai
   rw [List.cons_append, List.cons_append, eY]
   exact ⟨v, _, rfl, bf, ih bG aj⟩
theorem Hq {F : Nat → Prop} {aF : Nat → Value} {w : World} : ∀ {ds : List I} {vs : List Value}, eY w F s aF ds vs → ds.length = vs.length ∧ ∀ (i : Nat) (d : I) (v : Value), ds[i]? = some d → vs[i]? = some v → aW w F s aF d v (fun _ => False) := by
 intro ds
 induction ds with
 | nil => intro vs h; rw [eY] at h; subst h; exact ⟨rfl, fun i d v h => by simp at h⟩
 | cons d ds ih =>
   intro vs h
   rw [eY] at h
   obtain ⟨v, j9, rfl, bf, bG⟩ := h
   obtain ⟨b5, cu⟩ := ih bG
   refine ⟨by simp [b5], fun i bF gz al a3 => ?_⟩
   cases i with
   | zero => simp at al a3; subst al a3; exact bf
   | succ i => exact cu i bF gz (by simpa using al) (by simpa using a3)
theorem nO {op : Op} {bN : ga} (h : nN op = bN) : bN = .bad ∨ dj op = some bN := by
 unfold nN at h
 split at h
 ·subst h; right; assumption
 ·exact .inl h.symm
theorem O8 {op : Op} {bN : ga} : dj op ≠ some (.shr bN) := by
 intro h
 unfold dj at h
 split at h <;> (try split at h) <;> (try split at h) <;> (try split at h) <;> (try simp [Option.map_eq_some_iff] at h)
theorem O9 {op : Op} {f : aI} {args : List aI} {u x : Nat} : dj op ≠ some (.lT f args u x) := by
 intro h
 unfold dj at h
 split at h <;> (try split at h) <;> (try split at h) <;> (try split at h) <;> (try simp [Option.map_eq_some_iff] at h)
theorem O_ {op : Op} {f : aI} {args : List aI} {us : List Nat} : dj op ≠ some (.jX f args us) := by
 intro h
 unfold dj at h
 split at h <;> (try split at h) <;> (try split at h) <;> (try split at h) <;> (try simp [Option.map_eq_some_iff] at h)
theorem Pa {op : Op} {T : TypeId} {x : aI} : dj op ≠ some (.ju T x) := by
 intro h
 unfold dj at h
 split at h <;> (try split at h) <;> (try split at h) <;> (try split at h) <;> (try simp [Option.map_eq_some_iff] at h)
theorem Pb {op : Op} {T bO : TypeId} {x y : aI} : dj op ≠ some (.mZ T bO x y) := by
 intro h
 unfold dj at h
 split at h <;> (try split at h) <;> (try split at h) <;> (try split at h) <;> (try simp [Option.map_eq_some_iff] at h)
theorem Pc {op : Op} {T bO : TypeId} {x y : aI} (h : dj op = some (.app T bO x y)) : ∃ a b, op = .call ⟨.builtin .append, #[a, b], #[T, bO]⟩ ∧ dY a = some x ∧ dY b = some y := by
 cases op with
 | call c =>
   obtain ⟨callee, args, argTypes⟩ := c
   simp only [dj] at h
   split at h
   ·split at h <;> simp at h
   ·split at h <;> simp at h
   ·split at h <;> simp at h
   ·(split at h <;> try split at h) <;> simp at h
   ·(split at h <;> try split at h) <;> simp at h
   ·split at h
    ·rename_i a b vG yQ lU ra
     split at h
     ·rename_i cy jP aC bL
      simp only [Option.some.injEq, ga.app.injEq] at h
      obtain ⟨rfl, rfl, rfl, rfl⟩ := h
      refine ⟨a, b, ?_, aC, bL⟩
      have a4 : args = #[a, b] := by apply Array.ext'; exact lU
      have a_ : argTypes = #[vG, yQ] := by apply Array.ext'; exact ra
      subst a4 a_
      rfl
     ·cases h
    ·cases h
   ·cases h
 | makeFunc fn first cs =>
   cases fn <;> simp only [dj] at h <;> first | (cases h; done) | (split at h <;> simp at h)
 | slice T x dg au hD =>
   cases hD <;> simp only [dj] at h <;> first | (cases h; done) | (split at h <;> simp at h)
 | _ => simp only [dj] at h <;> first | (cases h; done) | (simp at h; done) | (split at h <;> simp at h)
theorem bW.alias {F : Nat → Prop} {S : Nat → Nat → Prop} {aF : Nat → Value} {u x : Nat} (h : bW w0 F0 X F S s aF w) (hu : s u = .hole) (aC : (s x).own = true) (a3 : cY (aF u) = cY (aF x)) (ai : Value.gX (aF u) = true) :
  bW w0 F0 X F (gp S u (fun _ => False)) (dt s u (.h x [])) aF w := by
 have eT : dt aF u (aF u) = aF := by funext y; simp only [dt]; split <;> simp_all
 have := h.sZ (t := u) (d := .h x []) (v := aF u) rfl (by
  rw [aW]
  intro d al ax
  simp only [I.sub, Option.some.injEq] at al
  subst al
  exact ⟨cY (aF x), none, rfl, a3, ((po aC).2.2.2.2.2 _).2 ai⟩)
 rwa [eT] at this
theorem kM.less {F : Nat → Prop} {S a1 : Nat → Nat → Prop} {aF : Nat → Value} {s1 : ar} {v : Value} (ca : ∀ u b, a1 u b → S u b) (a7 : av.res = true) (h : kM w0 X F S s aF w av v) : kM w0 X F a1 s1 aF w av v := by
 rcases h with ⟨ai, aj⟩ | ⟨ai, aj, Sn, aQ, bd, b3, cG, cp⟩
 ·refine .inl ⟨ai, ?_⟩
  cases av <;> first
   | (simp [I.res] at a7; done)
   | (rw [aW]; trivial)
   | (rw [aW] at aj ⊢; exact aj)
 ·exact .inr ⟨ai, aj, Sn, aQ, bd, b3, fun u b ae hu => cG u b ae (ca u b hu), cp⟩
theorem Dt (bB : C.fq) (h : Rel w0 F0 X n ρ s a w) {o : Oper} {f : aI} {args : List aI} (cP : dj o.op = some (.call f args)) (al : kR n o.dst = true) {K : I → ar → Prop} {L : ar → Prop} {next : Act → World → Prop}
  (hw : yU C s f args K) (rk : ∀ F S b0 a1 w aU av s1 v, bW w0 F0 X F S s (fun t => a.tmps.getD t undef) w → K av s1 → av.res = true → bW w0 F0 X b0 a1 s1 (fun t => a.tmps.getD t undef) aU → kM w0 X b0 a1 s1 (fun t => a.tmps.getD t undef) aU av v → (∀ b, F b → b0 b ∧ aU.heap[b]? = w.heap[b]?) →
   ∃ s2 et, L (fin s2 o.dst av) ∧ bW w0 F0 X b0 et s2 (fun t => a.tmps.getD t undef) aU ∧ kM w0 X b0 et s2 (fun t => a.tmps.getD t undef) aU av v)
  (bg : ∀ aA cR aU, L aA → Rel w0 F0 X n ρ aA cR aU → next cR aU) : o.wp C.P a w next Q := by
 have nP := h
 obtain ⟨jz, e4, ie, F, S, a7⟩ := h
 obtain ⟨g, caps, ps, r, ai, gf, aj, aQ, bd, b3, cG, cp, fR⟩ := hw
 obtain ⟨dst, op, ty, pos, after, guard⟩ := o
 simp only at cP al rk
 cases op with
 | call c =>
   obtain ⟨callee, lX, argTypes⟩ := c
   simp only [dj] at cP
   split at cP
   ·split at cP
    ·rename_i vH _ _ Pd xs bH oI
     simp only [Option.some.injEq, ga.call.injEq] at cP
     obtain ⟨rfl, rfl⟩ := cP
     obtain ⟨f1, f2⟩ := gm a7 (fun _ => rfl) bH
     rw [ai, aW] at f2
     obtain ⟨arr, f3, f4⟩ := f2
     have rl : execOp a.eval { dst, op := .call { callee := .value vH, args := lX, argTypes }, type := ty, pos, after, guard } = callFunc g ((lX.toList.map a.eval ++ arr.toList).toArray) := by
      have : a.eval vH = .func (.func g) #[] arr := f3
      simp only [execOp, resolve, this, Deferred.ofValue, pure_bind, invoke]
      congr 1
      apply Array.ext'; simp
     unfold Oper.wp
     rw [rl]
     have vI : eY w F s (fun t => a.tmps.getD t undef) (xs.map (aS s) ++ caps) (lX.toList.map a.eval ++ arr.toList) := Hp (yN a7 (fun _ => rfl) _ _ (q_ oI)) f4
     rw [← aj] at vI
     obtain ⟨hP, l2⟩ := Hq vI
     have gq : ∀ d ∈ xs.map (aS s) ++ caps, d.plain = true := by
      intro d al
      rcases List.mem_append.1 al with al | al
      ·obtain ⟨x, aC, rfl⟩ := List.mem_map.1 al
       exact Gg s x fun av e => by
        subst e
        have hm := q_ oI
        have : some (aI.c av) ∈ xs.map some := List.mem_map.2 ⟨_, aC, rfl⟩
        rw [← hm] at this
        obtain ⟨o, _, cm⟩ := List.mem_map.1 this
        cases o with
        | const v => simp only [dY, Option.map_eq_some_iff] at cm; obtain ⟨c, ay, e⟩ := cm; cases e; exact Cv ay
        | tmp n => simp [dY] at cm
        | func g => simp [dY] at cm
        | global g => simp [dY] at cm
      ·obtain ⟨k, aE⟩ := List.getElem?_of_mem al
       exact yh gf aE
     have Du := O6 (C := C) a7 (ps := ps) (vs := lX.toList.map a.eval ++ arr.toList) (f := g) (r := r) (by simpa using hP)
      (fun i p v ax a3 => ⟨gq p.a (by rw [← aj]; exact List.mem_map.2 ⟨p, List.mem_of_getElem? ax, rfl⟩), l2 i p.a v (by simp [ax]) a3⟩) aQ bd b3 cG cp
     rcases Du with ⟨dX, eS⟩ | ⟨v, aU, dX, b0, a1, eS, h6, jQ⟩
     ·rw [dX, Oper.upon_enter]
      refine Calls.mono eS ?_
      rintro e aU ⟨v, rfl, b0, a1, b5, cu, fD⟩
      obtain ⟨s2, et, fS, gG, hg⟩ := rk _ _ _ _ _ _ _ _ _ a7 fR cG b5 cu fD
      exact bg _ _ _ fS (Rel.put jz e4 ie gG hg al)
     ·rw [dX, Oper.upon_value]
      obtain ⟨s2, et, fS, gG, hg⟩ := rk _ _ _ _ _ _ _ _ _ a7 fR cG eS h6 jQ
      exact bg _ _ _ fS (Rel.put jz e4 ie gG hg al)
    ·cases cP
   ·split at cP
    ·simp only [Option.map_eq_some_iff] at cP; obtain ⟨_, _, cP⟩ := cP; cases cP
    ·cases cP
   ·split at cP
    ·simp only [Option.map_eq_some_iff] at cP; obtain ⟨_, _, cP⟩ := cP; cases cP
    ·cases cP
   iterate 3
    ·split at cP
     ·split at cP <;> cases cP
     ·cases cP
   ·cases cP
 | makeFunc fn first cs =>
   cases fn <;> simp only [dj] at cP <;> first | (cases cP; done) | (split at cP <;> simp at cP)
 | slice T x dg au hD =>
   cases hD <;> simp only [dj] at cP <;> first | (cases cP; done) | (split at cP <;> simp at cP)
 | _ => simp only [dj] at cP <;> first | (cases cP; done) | (simp at cP; done) | (split at cP <;> simp at cP)
theorem Pe (bB : C.fq) (h : Rel w0 F0 X n ρ s a w) {o : Oper} {bN : ga} (cP : dj o.op = some bN) (al : kR n o.dst = true) {K : ar → Prop} {next : Act → World → Prop}
  (hw : m7 C s bN fun av s1 => K (fin s1 o.dst av)) (bg : ∀ aA cR aU, K aA → Rel w0 F0 X n ρ aA cR aU → next cR aU) : o.wp C.P a w next Q := by
 have nP := h
 obtain ⟨jz, e4, ie, F, S, a7⟩ := h
 have plain : ∀ av s1, bX C s bN = some (av, s1) → K (fin s1 o.dst av) → o.wp C.P a w next Q := by
  intro av s1 he aE
  obtain ⟨r, aU, v, b0, a1, ai, aj, aQ, bd⟩ := G0 (a := a) bB a7 (fun _ => rfl) cP he
  unfold Oper.wp
  rw [ai]
  rcases aj with rfl | ⟨rfl, rfl⟩
  ·exact bg _ _ _ aE (Rel.put jz e4 ie aQ bd al)
  ·exact bg _ _ _ aE (Rel.put jz e4 ie aQ bd al)
 cases bN with
 | shr bN => exact (O8 cP).elim
 | mZ T bO x y => exact (Pb cP).elim
 | call f args => exact Dt bB ⟨jz, e4, ie, F, S, a7⟩ cP al (K := fun av s1 => K (fin s1 o.dst av)) hw (fun _ _ _ a1 _ _ _ s1 _ _ aj _ aQ bd _ => ⟨s1, a1, aj, aQ, bd⟩) bg
 | lT f args u x => exact (O9 cP).elim
 | jX f args L => exact (O_ cP).elim
 | ju T x => exact (Pa cP).elim
 | _ =>
   obtain ⟨av, s1, he, aE⟩ := hw
   exact plain av s1 he aE
theorem kM.share {F : Nat → Prop} {S : Nat → Nat → Prop} {aF : Nat → Value} {v : Value} (h : bW w0 F0 X F S s aF w) (a3 : kM w0 X F S s aF w av v) (bh : av.tree = true) (bg : ∀ vs, av ≠ .tuple vs) :
  ∃ b0, bW w0 F0 X b0 S s aF w ∧ kM w0 X b0 S s aF w av.share v := by
 obtain ⟨Sn, i9, bj, dO, b9, dJ, dF⟩ : ∃ Sn : Nat → Prop, eN av v ∧ aB w F av (cY v) Sn ∧ (∀ b, Sn b → b < w.heap.size) ∧ (∀ b, Sn b → ¬ F b) ∧ (∀ u b, Sn b → ¬ S u b) ∧ (∀ b, Sn b → X b ∨ w0.heap.size ≤ b) := by
  rcases a3 with ⟨ai, aj⟩ | ⟨_, aj, Sn, aQ, bd, b3, cG, cp⟩
  ·rw [aW.da bh] at aj
   exact ⟨fun _ => False, aj.1, aj.2, fun _ h => h.elim, fun _ h => h.elim, fun _ _ h => h.elim, fun _ h => h.elim⟩
  ·exact ⟨Sn, aj, aQ, bd, b3, cG, cp⟩
 refine ⟨fun b => F b ∨ Sn b, ?_, .inl ⟨Df av, ?_⟩⟩
 ·exact {
   hM := fun b ae => .inl (h.hM b ae)
   h5 := fun b ae => by
    rcases ae with ae | ae
    ·exact h.h5 b ae
    ·exact .inr (dF b ae)
   gy := fun b ae => ae.elim (h.gy b) (dO b)
   fA := h.fA
   gF := fun t b ae bH => bH.elim (h.gF t b ae) (fun ah => dJ t b ah ae)
   gl := h.gl
   eA := h.eA
   eu := fun t => aW.frame (fun _ _ => rfl) (fun b ae => .inl ae) (fun _ _ _ => rfl) h.eu _ _ _ (fun _ _ => rfl) (h.eu t)
   old := h.old
   size := h.size
   os := h.os
   tape := h.tape
   output := h.output }
 ·have Pf : av.share.tree = true := by cases av <;> first | exact bh | rfl
  rw [aW.da Pf]
  exact ⟨Dh bg i9, aB.shared (fun b ae => .inl ae) av _ Sn (fun b ae => .inr ae) bj⟩
theorem Pg {op : Op} {T : TypeId} {x : aI} (h : dj op = some (.c2 T x)) : ∃ a, op = .box T a ∧ dY a = some x := by
 cases op with
 | box vG a =>
   simp only [dj, Option.map_eq_some_iff, ga.c2.injEq] at h
   obtain ⟨y, bL, rfl, rfl⟩ := h
   exact ⟨a, rfl, bL⟩
 | _ =>
   exfalso
   unfold dj at h
   split at h <;> (try split at h) <;> (try split at h) <;> (try split at h) <;> (try simp [Option.map_eq_some_iff] at h) <;> contradiction
theorem Ph {aU : World} {F b0 : Nat → Prop} {s s1 : ar} {aF : Nat → Value} (bE : ∀ b, F b → b0 b ∧ aU.heap[b]? = w.heap[b]?) : ∀ (n : Nat),
  (∀ (d : I) (v : Value) (S : Nat → Prop), SizeOf.sizeOf d ≤ n → d.fT s = true → d.fT s1 = true → aW w F s aF d v S → aW aU b0 s1 aF d v (fun _ => False)) ∧
  (∀ (ds : List I) (vs : List Value), SizeOf.sizeOf ds ≤ n → I.m6 s ds = true → I.m6 s1 ds = true → eY w F s aF ds vs → eY aU b0 s1 aF ds vs) := by
 intro n
 induction n with
 | zero =>
   refine ⟨fun d v S b7 => ?_, fun ds vs b7 => ?_⟩
   ·cases d <;> simp at b7 <;> omega
   ·cases ds <;> simp at b7 <;> omega
 | succ n ih =>
   refine ⟨fun d v S b7 b5 cu h => ?_, fun ds vs b7 b5 cu h => ?_⟩
   ·cases d with
    | hole => rw [aW]; trivial
    | h x q =>
      simp only [I.fT, Bool.and_eq_true, List.isEmpty_iff] at b5 cu
      obtain ⟨rfl, b5⟩ := b5
      rw [aW] at h ⊢
      obtain ⟨c0, a, gP, ht, h4⟩ := h (s x) (by simp only [I.sub]) (po b5).1
      simp only [dr, Option.some.injEq, Prod.mk.injEq, true_and] at gP
      intro d al _
      simp only [I.sub, Option.some.injEq] at al
      subst al
      exact ⟨cY (aF x), none, by simp only [dr], by rw [ht, ← gP.1], ((po cu.2).2.2.2.2.2 _).2 (((po b5).2.2.2.2.2 _).1 h4)⟩
    | ax x q => simp [I.fT] at b5
    | ae x k =>
      simp only [I.fT, Bool.not_eq_true'] at b5
      rw [aW] at h ⊢
      obtain ⟨b, cur, e, fr, ai, aj, aQ, bd⟩ := h b5
      exact fun _ => ⟨b, cur, e, fr, ai, (bE b aj).1, (bE b aj).2.trans aQ, bd⟩
    | fn f cap =>
      simp only [I.fT] at b5 cu
      rw [aW] at h ⊢
      obtain ⟨arr, rfl, ay⟩ := h
      exact ⟨arr, rfl, ih.2 _ _ (by simp at b7; omega) b5 cu ay⟩
    | _ =>
      simp only [I.fT] at b5
      have bD := (aW.da rfl).1 h
      exact (aW.da rfl).2 ⟨bD.1, aB.mono (fun b ae => (bE b ae).1) _ _ _ _ (fun _ h => h) (aB.frame (fun b ae => (bE b ae).2) _ _ _ (fun _ h => h.elim) (aB.plain _ _ _ _ b5 bD.2))⟩
   ·cases ds with
    | nil => rw [eY] at h ⊢; exact h
    | cons d ds =>
      simp only [I.m6, Bool.and_eq_true] at b5 cu
      rw [eY] at h ⊢
      obtain ⟨v, j9, rfl, ai, aj⟩ := h
      simp at b7
      exact ⟨v, j9, rfl, ih.1 _ _ _ (by omega) b5.1 cu.1 ai, ih.2 _ _ (by omega) b5.2 cu.2 aj⟩
theorem Pj {s : ar} {d : I} (h : d.fT s = true) : d.plain = true := by
 cases d <;> first | rfl | (simpa [I.fT] using h)
theorem bW.lW {F : Nat → Prop} {aF : Nat → Value} : ∀ (L : List (Nat × I)) (s : ar) (S : Nat → Nat → Prop), bW w0 F0 X F S s aF w → (∀ p ∈ L, p.2.plain = true ∧ aW w F s aF p.2 (aF p.1) (fun _ => False)) →
  ∃ a1, bW w0 F0 X F a1 (dk.lW s L) aF w ∧ ∀ u b, a1 u b → S u b := by
 intro L
 induction L with
 | nil => intro s S h _; exact ⟨S, h, fun _ _ h => h⟩
 | cons p L ih =>
   intro s S h rk
   obtain ⟨ai, aj⟩ := rk p (by simp)
   have eT : dt aF p.1 (aF p.1) = aF := by funext u; simp only [dt]; split <;> simp_all
   have aQ := h.sZ (t := p.1) ai aj
   rw [eT] at aQ
   have hv : ∀ x, x ≠ p.1 → (dt s p.1 p.2 x).tree = true → dt s p.1 p.2 x = s x ∧ aF x = aF x := fun x aC _ => ⟨ji _ _ aC, rfl⟩
   obtain ⟨a1, bf, bG⟩ := ih _ _ aQ (fun q dd => ⟨(rk q (by simp [dd])).1, (aW.void (t := p.1) hv (by rw [lP]; exact ai) _).1 _ _ _ (Nat.le_refl _) (rk q (by simp [dd])).2⟩)
   refine ⟨a1, bf, fun u b ae => ?_⟩
   have := bG u b ae
   simp only [gp] at this
   split at this
   ·exact this.elim
   ·exact this
theorem Dv {s : ar} : ∀ {L : List (Nat × I)}, kS s L = true → ∀ p ∈ L, p.2.fT s = true
 | q :: L, ai, p, ax => by
   simp only [kS, Bool.and_eq_true] at ai
   rcases List.mem_cons.1 ax with rfl | ax
   ·exact ai.1
   ·exact Dv ai.2 p ax
theorem Pk {s : ar} {us : List Nat} {p : Nat × I} (h : p ∈ iZ s us) : p.1 ∈ us ∧ s p.1 = p.2 := by
 obtain ⟨u, hu, rfl⟩ := List.mem_map.1 h
 exact ⟨hu, rfl⟩
theorem Pl (bB : C.fq) (h : Rel w0 F0 X n ρ s a w) {o : Oper} {bN : ga} (cP : nN o.op = bN.base) (al : kR n o.dst = true) {K : ar → Prop} {next : Act → World → Prop}
  (hw : m7 C s bN fun av s1 => K (fin s1 o.dst av)) (bg : ∀ aA cR aU, K aA → Rel w0 F0 X n ρ aA cR aU → next cR aU) : o.wp C.P a w next Q := by
 cases bN with
 | shr bN =>
   obtain ⟨av, s1, he, bh, lV, aE⟩ := hw
   rcases nO cP with cP | cP
   ·change bN = .bad at cP
    subst cP; cases he
   obtain ⟨jz, e4, ie, F, S, a7⟩ := h
   obtain ⟨r, aU, v, b0, a1, ai, aj, aQ, bd⟩ := G0 (a := a) bB a7 (fun _ => rfl) cP he
   obtain ⟨rj, cC, eH⟩ := kM.share aQ bd bh lV
   unfold Oper.wp
   rw [ai]
   rcases aj with rfl | ⟨rfl, rfl⟩
   ·exact bg _ _ _ aE (Rel.put jz e4 ie cC eH al)
   ·exact bg _ _ _ aE (Rel.put jz e4 ie cC eH al)
 | bad => obtain ⟨av, s1, he, _⟩ := hw; cases he
 | lT f args u x =>
   obtain ⟨a4, a_, hw⟩ := hw
   rcases nO cP with ae | ae
   ·cases ae
   ·refine Dt bB h ae al hw ?_ bg
    rintro F S b0 a1 w aU av s1 v i9 ⟨bj, dO, b9⟩ dJ dF eW _
    have yo := i9.eu u
    rw [a4, aW] at yo
    obtain ⟨c0, J, gP, ht, h4⟩ := yo (s x) (by simp only [I.sub]) (po a_).1
    simp only [dr, Option.some.injEq, Prod.mk.injEq, true_and] at gP
    have Pm : ∀ y b, gp a1 u (fun _ => False) y b → a1 y b := by
     intro y b ae
     simp only [gp] at ae
     split at ae
     ·exact ae.elim
     ·exact ae
    exact ⟨_, _, b9, dF.alias bj dO (by rw [ht, ← gP.1]) (((po a_).2.2.2.2.2 _).1 h4), eW.less Pm dJ⟩
 | jX f args L =>
   obtain ⟨a_, hw⟩ := hw
   rcases nO cP with ae | ae
   ·cases ae
   ·refine Dt bB h ae al hw ?_ bg
    rintro F S b0 a1 w aU av s1 v i9 ⟨bj, b9⟩ dJ dF eW gn
    obtain ⟨et, bf, bG⟩ := dF.lW (iZ s L) s1 a1 (fun p ax => by
     have dX := (Pk ax).2
     have eS := Dv a_ p ax
     have h6 := Dv bj p ax
     refine ⟨Pj eS, (Ph gn _).1 _ _ (S p.1) (Nat.le_refl _) eS h6 ?_⟩
     have := i9.eu p.1
     rw [dX] at this
     exact this)
    exact ⟨_, et, b9, bf, eW.less bG dJ⟩
 | ju T x =>
   obtain ⟨av, s1, he, aE⟩ := hw
   rcases nO cP with ae | ae
   ·cases ae
   ·obtain ⟨cy, vJ, aC⟩ := Pg ae
    obtain ⟨jz, e4, ie, F, S, a7⟩ := h
    obtain ⟨dst, op, ty, pos, after, guard⟩ := o
    simp only at vJ al aE
    subst vJ
    obtain ⟨r, aU, v, b0, a1, ai, aj, aQ, bd⟩ : Next C w0 F0 X (fun t => a.tmps.getD t undef) w (execOp a.eval ⟨dst, .box T cy, ty, pos, after, guard⟩) av s1 := (Nx (T := T) a7 (gm a7 (fun _ => rfl) aC).2 he).next
    unfold Oper.wp
    rw [ai]
    rcases aj with rfl | ⟨rfl, rfl⟩
    ·exact bg _ _ _ aE (Rel.put jz e4 ie aQ bd al)
    ·exact bg _ _ _ aE (Rel.put jz e4 ie aQ bd al)
 | mZ T bO x y =>
   obtain ⟨av, s1, he, aE⟩ := hw
   rcases nO cP with ae | ae
   ·cases ae
   ·obtain ⟨cy, jP, vJ, aC, bL⟩ := Pc ae
    obtain ⟨jz, e4, ie, F, S, a7⟩ := h
    simp only [bX, Option.map_eq_some_iff, Prod.mk.injEq] at he
    obtain ⟨d, hc, rfl, rfl⟩ := he
    obtain ⟨v, aU, b0, a1, ai, aj, aQ⟩ := Od (ty := o.type) bB a7 (gm a7 (fun _ => rfl) aC).2 (gm a7 (fun _ => rfl) bL).2 hc
    have rl : execOp a.eval o = (do pure (.value (← Builtin.append_ #[T, bO] o.type #[a.eval cy, a.eval jP]))) := by
     obtain ⟨dst, op, ty, pos, after, guard⟩ := o
     simp only at vJ
     subst vJ
     simp [execOp, resolve, invoke, builtin]
    unfold Oper.wp
    rw [rl]
    simp only [Sem.run_bind, ai, Result.andThen]
    exact bg _ _ _ aE (Rel.put jz e4 ie aj aQ al)
 | _ =>
   rcases nO cP with ae | ae
   ·cases ae
   ·exact Pe bB h ae al hw bg
end
end Go.dk
