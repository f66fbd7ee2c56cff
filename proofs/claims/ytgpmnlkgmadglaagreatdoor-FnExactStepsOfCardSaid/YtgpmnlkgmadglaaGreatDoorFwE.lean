/- Part of a proof that a law returns true for every input. No condition. -/
import Derived.Test.YtgpmnlkgmadglaaGreatDoorFwD
import Derived.Laws.Tables
namespace Go.cY
section
variable {C : b4} {w0 w : World} {F0 X F : Nat → Prop} {S : Nat → Nat → Prop} {s s1 : al} {aB : Nat → Value} {av : I}
theorem Bd (z : List Value) : ∀ n, (List.range (n * z.length)).map (fun i => z[i % z.length]!) = (List.replicate n z).flatten
 | 0 => by simp
 | n + 1 => by
   rw [Nat.add_mul, Nat.one_mul, List.range_add, List.map_append, Bd z n, List.replicate_succ', List.flatten_append]
   congr 1
   simp only [List.map_map, List.flatten_cons, List.flatten_nil, List.append_nil]
   apply List.ext_getElem
   ·simp
   ·intro i af ag
    have an : i < z.length := ag
    simp [Nat.mod_eq_of_lt an, an]
theorem bf.replicate {d : I} {cs : List Value} (h : ∀ aR, ay w F d cs aR) : ∀ n aR, bf w F (List.replicate n d) (List.replicate n cs).flatten aR
 | 0, aR => by simp only [List.replicate_zero, List.flatten_nil]; rw [bf]
 | n + 1, aR => by
   rw [List.replicate_succ, List.replicate_succ, List.flatten_cons, bf]
   exact ⟨cs, _, fun _ => False, fun _ => False, rfl, h _, bf.replicate h n _, fun _ h => h.elim, fun _ h => h.elim, fun _ h => h.elim⟩
def e7 (C : b4) (T : TypeId) (l c : I) : Option I :=
 match (C.T T).k, l, c with
 | .slice e, .int .i64 n, .int .i64 m => if n = m ∧ 0 ≤ n ∧ (C.T e).ok = true ∧ (C.T e).zero.wd = (C.T e).sz ∧ (flat (C.T e).zero).isSome = true ∧ (C.T e).sz ≠ 0 ∧ (C.T e).bytes * n ≤ 140737488355328 ∧ n ≤ 9223372036854775807 then
   some (.au (C.T e).sz (List.replicate n.toNat (C.T e).zero)) else none
 | _, _, _ => none
theorem SX (bp : C.eP) (h : bM w0 F0 X F S s aB w) {T : TypeId} {l c : I} {Kt Ku : Value} (hl : aI w F s aB l Kt (fun _ => False)) (ao : aI w F s aB c Ku (fun _ => False)) (he : e7 C T l c = some av) :
  Good C w0 F0 X aB w (Instr.makeSlice T Kt Ku) av s := by
 unfold e7 at he
 split at he
 ·rename_i e n m ar
  have := nE hl; subst this
  have := nE ao; subst this
  obtain ⟨Fy, d, Fz, aN, aZ, aT, b2, cI, bZ, bO⟩ := bp.info (gq ar (by simp))
  rw [ar] at bO
  have := lR bO; subst this
  split at he
  ·rename_i tk
   obtain ⟨rfl, bc, pk, qa, q9, d_, Kv, FC⟩ := tk
   simp only [Option.some.injEq] at he; subst he
   obtain ⟨i, FA, z, f1, f2, f3, f4, f5, f6, f7⟩ := bp.info pk
   obtain ⟨e9, mi⟩ := Option.isSome_iff_exists.1 q9
   have q_ := f5 e9 mi
   have ha : ∀ aR, ay w F (C.T e).zero e9 aR := fun aR => (ay.flat _).1 _ e9 aR (Nat.le_refl _) mi
   have po : e9.length = (C.T e).sz := by rw [ay.length _ _ _ (ha (fun _ => False)), qa]
   obtain ⟨n, rfl⟩ := Int.eq_ofNat_of_zero_le bc
   simp only [Int.toNat_natCast]
   have vA : IntKind.i64.wrap (n : Int) = n := by
    rw [IntKind.wrap_i64]; omega
   have vy : ∀ k (w : World), (askRoom k).run C.P w = .ok () w := by
    intro k w
    unfold askRoom
    split <;> rfl
   have ph : ((Array.range (n * (C.T e).sz)).map (e9.toArray[· % e9.toArray.size]!)).toList = (List.replicate n e9).flatten := by
    have := Bd e9 n
    rw [po] at this
    simpa [po] using this
   have dZ : ¬ (281474976710656 < (i.bytes : Int) * n) := by
    rw [f3]; omega
   have Be : ¬ ((n : Int) < 0) := by omega
   have run : (Instr.makeSlice T (.int .i64 n) (.int .i64 n)).run C.P w = .ok (.slice (some ⟨w.heap.size, 0, none⟩) n n)
     (w.alloc (.cells (if n * (C.T e).sz = 0 then (Array.range (n * (C.T e).sz)).map (fun _ => default) else (Array.range (n * (C.T e).sz)).map (e9.toArray[· % e9.toArray.size]!)) e)) := by
    by_cases bn : n * (C.T e).sz = 0
    ·simp [Instr.makeSlice, run_underlying bZ, asInt, asIntOf, th f1, vA, dZ, Be, vy, kp f1, f2, bn, newRow]
    ·simp only [bn, if_false]
     simp [Instr.makeSlice, run_underlying bZ, asInt, asIntOf, th f1, vA, dZ, Be, vy, kp f1, f2, bn, newRow, r0 f1 f4, q_]
   have lN : (if n * (C.T e).sz = 0 then (Array.range (n * (C.T e).sz)).map (fun _ => (default : Value)) else (Array.range (n * (C.T e).sz)).map (e9.toArray[· % e9.toArray.size]!)).toList = (List.replicate n e9).flatten := by
    split
    ·rename_i bn
     have : n = 0 := by
      rcases Nat.mul_eq_zero.1 bn with h | h
      ·exact h
      ·exact (d_ h).elim
     subst this
     simp
    ·exact ph
   generalize tv : (if n * (C.T e).sz = 0 then (Array.range (n * (C.T e).sz)).map (fun _ => (default : Value)) else (Array.range (n * (C.T e).sz)).map (e9.toArray[· % e9.toArray.size]!)) = cur at run lN
   have iu : (List.replicate n e9).flatten.length = n * (C.T e).sz := by simp [po]
   have iI : cur.size = n * (C.T e).sz := by
    have : cur.size = cur.toList.length := by simp
    rw [this, lN, iu]
   have kJ := h.ya (aL := w.alloc (.cells cur e)) (sz := (C.T e).sz) (cap := n) (xs := List.replicate n (C.T e).zero) (cur := cur) (e := e) (fr := (0, 0)) (Sn := fun _ => False) rfl rfl rfl rfl
    (fun o _ ⟨_, ag⟩ => absurd ag (Nat.not_lt_zero _)) (by simp) (by unfold maxLen; omega) iI (by intro d ai; rw [List.eq_of_mem_replicate ai]; exact qa)
    (by rw [lN, List.length_replicate, List.take_of_length_le (by rw [iu]; exact Nat.le_refl _)]; exact bf.replicate ha n _) (fun _ h => h.elim) (fun _ h => h.elim) (fun _ _ h => h.elim) (fun _ h => h.elim)
   rw [List.length_replicate] at kJ
   exact ⟨_, _, F, S, run, kJ.1, kJ.2⟩
  ·cases he
 ·cases he
def oi (C : b4) (T bR : TypeId) (x y : I) : Option I :=
 match (C.T T).k, (C.T bR).k, x, y with
 | .slice e, .int _, .bo, .int .i64 n => if 0 ≤ n ∧ (C.T e).ok = true ∧ (C.T e).zero.wd = (C.T e).sz ∧ (flat (C.T e).zero).isSome = true ∧ (C.T e).sz ≠ 0 ∧ (C.T e).bytes * n ≤ 140737488355328 ∧ n ≤ 9223372036854775807 then
   some (.au (C.T e).sz (List.replicate n.toNat (C.T e).zero)) else none
 | _, _, _, _ => none
theorem SY {P : Program} {T bR ty e : TypeId} {k : IntKind} {i : TypeInfo} {z : Value} (a1 : P.underlying T = some (.slice e)) (hu : P.underlying bR = some (.int k)) (an : P.info? e = some i) (bS : i.zero = some z)
  (n : Nat) (bn : n ≠ 0) (ab : i.size ≠ 0) (bc : n ≤ 9223372036854775807) (aa : n * i.bytes ≤ 140737488355328) :
  (Builtin.append_ #[T, bR] ty #[.slice none 0 0, .int .i64 n]).run P w = .ok (.slice (some ⟨w.heap.size, 0, none⟩) n (grownCap w n 0 e))
   (w.drew.alloc (.cells (Builtin.zeroCells z.cells n ++ Builtin.zeroCells z.cells (grownCap w n 0 e - n)) e)) := by
 have vA : IntKind.i64.wrap (n : Int) = n := by rw [IntKind.wrap_i64]; omega
 have Be : ¬ ((n : Int) < 0) := by omega
 have hmul : (n : Int) * (i.bytes : Int) = ((n * i.bytes : Nat) : Int) := by simp
 have dZ : ¬ (281474976710656 < (n : Int) * (i.bytes : Int)) := by rw [hmul]; omega
 have ir : ¬ (281474976710656 < Builtin.nextslicecap n 0 * i.bytes) := by
  have : Builtin.nextslicecap n 0 = n := by unfold Builtin.nextslicecap; rw [if_pos (by omega)]
  rw [this]; omega
 have vy : ∀ k (w : World), (askRoom k).run P w = .ok () w := by
  intro k w
  unfold askRoom
  split <;> rfl
 have Fv : ¬ (9223372036854775807 < (n : Int)) := by omega
 have FH : n * i.size ≠ 0 := Nat.mul_ne_zero bn ab
 simp [Builtin.append_, run_underlying a1, run_underlying hu, kp an, th an, asInt, asIntOf, vA, Be, dZ, ir, bn, Question.forced, vy, Fv, r0 an bS, newRow, grownCap, Builtin.firstCells]
 intro ko; exact (FH ko).elim
theorem SZ (bp : C.eP) (h : bM w0 F0 X F S s aB w) {T bR ty : TypeId} {x y : I} {h_ jf : Value} (aq : aI w F s aB x h_ (fun _ => False)) (hy : aI w F s aB y jf (fun _ => False)) (he : oi C T bR x y = some av) :
  Good C w0 F0 X aB w (Builtin.append_ #[T, bR] ty #[h_, jf]) av s := by
 unfold oi at he
 split at he
 ·rename_i e ayR n ar Kw
  have := q6 aq; subst this
  have := nE hy; subst this
  obtain ⟨Fy, d, Fz, aN, aZ, aT, b2, cI, bZ, bO⟩ := bp.info (gq ar (by simp))
  rw [ar] at bO
  have := lR bO; subst this
  obtain ⟨ayS, ayT, ayU, qd, ra, Bf, yi, ayV, tw, Kx⟩ := bp.info (gq Kw (by simp))
  rw [Kw] at Kx
  have := x2 Kx; subst this
  split at he
  ·rename_i tk
   obtain ⟨bc, pk, qa, q9, d_, Kv, FC⟩ := tk
   simp only [Option.some.injEq] at he; subst he
   obtain ⟨i, FA, z, f1, f2, f3, f4, f5, f6, f7⟩ := bp.info pk
   obtain ⟨e9, mi⟩ := Option.isSome_iff_exists.1 q9
   have q_ := f5 e9 mi
   have ha : ∀ aR, ay w F (C.T e).zero e9 aR := fun aR => (ay.flat _).1 _ e9 aR (Nat.le_refl _) mi
   have po : e9.length = (C.T e).sz := by rw [ay.length _ _ _ (ha (fun _ => False)), qa]
   obtain ⟨n, rfl⟩ := Int.eq_ofNat_of_zero_le bc
   simp only [Int.toNat_natCast]
   by_cases bn : n = 0
   ·subst bn
    have run : (Builtin.append_ #[T, bR] ty #[.slice none 0 0, .int .i64 ((0 : Nat) : Int)]).run C.P w = .ok (.slice none 0 0) w := by
     have vA : IntKind.i64.wrap 0 = 0 := by decide
     simp [Builtin.append_, run_underlying bZ, run_underlying tw, kp f1, th f1, asInt, asIntOf, vA]
    exact ⟨_, w, F, S, run, h, .inr ⟨rfl, rfl, fun _ => False, by simp only [cp, iG]; rw [ay]; exact .inl ⟨rfl, _, rfl⟩, fun _ h => h.elim, fun _ h => h.elim, fun _ _ h => h.elim, fun _ h => h.elim⟩⟩
   ·have run := SY (w := w) (ty := ty) bZ tw f1 f4 n bn (by rw [f2]; exact d_) (by omega) (by
     rw [f3]
     have : ((C.T e).bytes : Int) * (n : Int) = (((C.T e).bytes * n : Nat) : Int) := by simp
     rw [this] at Kv
     rw [Nat.mul_comm]; omega)
    rw [q_] at run
    have yd := grownCap_ge w n 0 e
    have ye := grownCap_le_maxLen w n 0 e (by unfold maxLen; omega)
    have Ky : ∀ m, (Builtin.zeroCells e9.toArray m).toList = (List.replicate m e9).flatten := by
     intro m
     have := Bd e9 m
     unfold Builtin.zeroCells
     simpa [po] using this
    have iu : ∀ m, (List.replicate m e9).flatten.length = m * (C.T e).sz := by intro m; simp [po]
    generalize tv : Builtin.zeroCells e9.toArray n ++ Builtin.zeroCells e9.toArray (grownCap w n 0 e - n) = cur at run
    have lN : cur.toList = (List.replicate n e9).flatten ++ (List.replicate (grownCap w n 0 e - n) e9).flatten := by rw [← tv, Array.toList_append, Ky, Ky]
    have iI : cur.size = grownCap w n 0 e * (C.T e).sz := by
     have : cur.size = cur.toList.length := by simp
     rw [this, lN, List.length_append, iu, iu, ← Nat.add_mul]
     congr 1; omega
    have kJ := h.ya (aL := w.drew.alloc (.cells cur e)) (sz := (C.T e).sz) (cap := grownCap w n 0 e) (xs := List.replicate n (C.T e).zero) (cur := cur) (e := e) (fr := (0, 0)) (Sn := fun _ => False) rfl rfl rfl rfl
     (fun o _ ⟨_, ag⟩ => absurd ag (Nat.not_lt_zero _)) (by simpa using yd) ye iI (by intro d ai; rw [List.eq_of_mem_replicate ai]; exact qa)
     (by rw [lN, List.length_replicate, List.take_left' (iu n)]; exact bf.replicate ha n _) (fun _ h => h.elim) (fun _ h => h.elim) (fun _ _ h => h.elim) (fun _ h => h.elim)
    rw [List.length_replicate] at kJ
    exact ⟨_, _, F, S, run, kJ.1, kJ.2⟩
  ·cases he
 ·cases he
def ji (s : al) (f : FuncId) (cs : List aH) : Option I := some (.fn f (cs.map (aJ s)))
theorem Bg {a : Act} (h : bM w0 F0 X F S s aB w) (ek : ∀ t, aB t = a.tmps.getD t undef) : ∀ (os : List Operand) (xs : List aH), os.map dz = xs.map some → ef w F s aB (xs.map (aJ s)) (os.map a.eval)
 | [], [], _ => by simp only [List.map_nil]; rw [ef]
 | [], x :: xs, h => by simp at h
 | o :: os, [], h => by simp at h
 | o :: os, x :: xs, bE => by
   simp only [List.map_cons, List.cons.injEq] at bE ⊢
   rw [ef]
   exact ⟨_, _, rfl, (fg h ek bE.1).2, Bg h ek os xs bE.2⟩
theorem Kz : ∀ (vs : List Value) (k off : Nat) (A : Array Value) (l m r : List Value), A.toList = l ++ (m ++ r) → l.length = off + k → m.length = vs.length →
  ((vs.zipIdx k).foldl (fun cs (x : Value × Nat) => cs.setIfInBounds (off + x.2) x.1) A).toList = l ++ (vs ++ r)
 | [], k, off, A, l, m, r, ju, hl, hm => by
   have : m = [] := by simpa using hm
   subst this
   simpa using ju
 | v :: vs, k, off, A, l, m, r, ju, hl, hm => by
   obtain ⟨x, m, rfl⟩ : ∃ x js, m = x :: js := by
    cases m with
    | nil => simp at hm
    | cons x m => exact ⟨x, m, rfl⟩
   rw [List.zipIdx_cons, List.foldl_cons]
   have := Kz vs (k + 1) off (A.setIfInBounds (off + k) v) (l ++ [v]) m r (by
    rw [Array.toList_setIfInBounds, ju, ← hl, List.set_append_right _ _ (Nat.le_refl _)]
    simp) (by simp; omega) (by simpa using hm)
   simpa using this
def lr (os : List (Option Nat)) (a : I) : I := os.foldl (fun a o => k4 o a) a
def dF (place : Nat → Option (Nat × Nat)) : al → List I → List (Option Nat) → List (Nat × I) → Option (List I × al)
 | s, eL, _, [] => some (eL, s)
 | s, eL, os, (k, a) :: r => match cO s (lr os a), place k, eL[k]? with
   | some (d, s1), some (off, n), some z => match d with
     | .tuple _ => none
     | d => if d.wd = n ∧ z.wd = n ∧ I.ee (eL.take k) = off then dF place s1 (eL.set k d) (os ++ [(lr os a).owner]) r else none
   | _, _, _ => none
def oj (w : World) (F : Nat → Prop) (s : al) (aB : Nat → Value) : List (Nat × I) → List (Nat × Value) → Prop
 | [], [] => True
 | (k, a) :: r, (cL, v) :: gU => k = cL ∧ a.plain = true ∧ aI w F s aB a v (fun _ => False) ∧ oj w F s aB r gU
 | _, _ => False
theorem S0 (x : Nat) : ∀ d : I, d.plain = true → (cj x d).plain = true
 | .h y q, _ => by simp only [cj]; split <;> (try split) <;> rfl
 | .aw y q, _ => by simp only [cj]; split <;> rfl
 | .aa y q, _ => rfl
 | .fn f c, _ => by simp only [cj]; rfl
 | .hole, h => h
 | .bool _, h => h
 | .eT, h => h
 | .int _ _, h => h
 | .str _, h => h
 | .da, h => h
 | .bo, h => h
 | .slice _, h => h
 | .au _ _, h => h
 | .ref _, h => h
 | .aU _, h => h
 | .agg _, h => h
 | .tuple _, h => h
theorem S1 (o : Option Nat) (d : I) (h : d.plain = true) : (k4 o d).plain = true := by
 cases o with
 | none => exact h
 | some x => exact S0 x d h
theorem oj.cj {w : World} {F : Nat → Prop} {s s1 : al} {aB : Nat → Value} {o : Option Nat} (aw : ∀ (bx : I) (gB : Value) (aR : Nat → Prop), aI w F s aB bx gB aR → aI w F s1 aB (k4 o bx) gB aR) :
  ∀ (r : List (Nat × I)) (gU : List (Nat × Value)), oj w F s aB r gU → oj w F s1 aB (r.map fun p => (p.1, k4 o p.2)) gU
 | [], [], _ => trivial
 | (k, a) :: r, (cL, v) :: gU, h => by
   obtain ⟨af, ag, aF, a_⟩ := h
   exact ⟨af, S1 _ _ ag, aw _ _ _ aF, oj.cj aw r gU a_⟩
 | [], _ :: _, h => h.elim
 | _ :: _, [], h => h.elim
theorem FI {place : Nat → Option (Nat × Nat)} : ∀ (ps : List (Nat × I)) (vs : List (Nat × Value)) (os : List (Option Nat)) (s : al) (S : Nat → Nat → Prop) (eL : List I) (A : Array Value) (hV : Nat → Prop),
  bM w0 F0 X F S s aB w → oj w F s aB (ps.map fun p => (p.1, lr os p.2)) vs → bf w F eL A.toList hV → (∀ b, hV b → b < w.heap.size) → (∀ b, hV b → ¬ F b) → (∀ u b, hV b → ¬ S u b) → (∀ b, hV b → X b ∨ w0.heap.size ≤ b) →
  ∀ ds s1, dF place s eL os ps = some (ds, s1) → ∃ mI cc hi, Instr.fill place A vs = some mI ∧ bM w0 F0 X F cc s1 aB w ∧ bf w F ds mI.toList hi ∧ (∀ b, hi b → b < w.heap.size) ∧ (∀ b, hi b → ¬ F b) ∧ (∀ u b, hi b → ¬ cc u b) ∧
    (∀ b, hi b → X b ∨ w0.heap.size ≤ b) ∧ ds.length = eL.length ∧ I.ee ds = I.ee eL ∧ (∀ n, (∀ d ∈ eL, d.wd = n) → ∀ d ∈ ds, d.wd = n)
 | [], [], os, s, S, eL, A, hV, h, _, af, ag, aF, a_, bI, ds, s1, he => by
   simp only [dF, Option.some.injEq, Prod.mk.injEq] at he
   obtain ⟨rfl, rfl⟩ := he
   exact ⟨A, S, hV, rfl, h, af, ag, aF, a_, bI, rfl, rfl, fun _ h => h⟩
 | (k, a) :: ps, (cL, v) :: vs, os, s, S, eL, A, hV, h, aw, af, ag, aF, a_, bI, ds, s1, he => by
   obtain ⟨rfl, lu, pc, yj⟩ := aw
   simp only [dF] at he
   split at he
   ·rename_i d vB off n z a1 eK bS
    have key : ∀ d : I, (∀ ax, d ≠ .tuple ax) → cO s (lr os a) = some (d, vB) → (if d.wd = n ∧ z.wd = n ∧ I.ee (eL.take k) = off then dF place vB (eL.set k d) (os ++ [(lr os a).owner]) ps else none) = some (ds, s1) →
      ∃ mI cc hi, Instr.fill place A ((k, v) :: vs) = some mI ∧ bM w0 F0 X F cc s1 aB w ∧ bf w F ds mI.toList hi ∧ (∀ b, hi b → b < w.heap.size) ∧ (∀ b, hi b → ¬ F b) ∧ (∀ u b, hi b → ¬ cc u b) ∧
      (∀ b, hi b → X b ∨ w0.heap.size ≤ b) ∧ ds.length = eL.length ∧ I.ee ds = I.ee eL ∧ (∀ n, (∀ d ∈ eL, d.wd = n) → ∀ d ∈ ds, d.wd = n) := by
     intro d q4 a1 he
     split at he
     ·rename_i ao
      obtain ⟨mJ, kb, KA⟩ := ao
      obtain ⟨cc, g0, g1, g2, Sn, g3, g4, g5, g6, g7, g8, g9, g10⟩ := pd h lu pc a1
      obtain ⟨cv, gn, cw, Sx, h7, ju, hW, fD, hr, h8, gz, my⟩ := bf.pick eL _ _ k z af bS
      have ph := x5 g2 q4
      have vC := ay.length _ _ _ g3
      have KB := ay.length _ _ _ gz
      have r1 := my w d (cp v) Sn (fun _ _ => rfl) (fun _ _ => rfl) g3 (fun b S2 S3 => by obtain ⟨u, hu⟩ := g9 b S2; exact a_ u b (fD b S3) hu)
      have KC := Kz (cp v) 0 off A cv gn cw ju (by rw [hW, KA]; rfl) (by rw [KB, vC, mJ, kb])
      generalize yk : ((cp v).zipIdx 0).foldl (fun cs (x : Value × Nat) => cs.setIfInBounds (off + x.2) x.1) A = mD at KC
      obtain ⟨mI, dB, hi, m1, m2, m3, m4, m5, m6, m7, m8, m9, m10⟩ := FI (place := place) ps vs (os ++ [(lr os a).owner]) vB cc (eL.set k d) mD (fun b => Sx b ∨ Sn b) g0 (by have := oj.cj g10 _ _ yj; simpa [lr, List.foldl_append, Function.comp_def] using this) (by rw [KC]; exact r1)
       (by rintro b (aa | aa); exact ag b (fD b aa); exact g4 b aa) (by rintro b (aa | aa); exact aF b (fD b aa); exact g5 b aa)
       (by rintro u b (aa | aa); exact fun hu => a_ u b (fD b aa) (g8 u b hu); exact g6 u b aa) (by rintro b (aa | aa); exact bI b (fD b aa); exact g7 b aa) ds s1 he
      refine ⟨mI, dB, hi, ?_, m2, m3, m4, m5, m6, m7, by rw [m8]; simp, by rw [m9]; exact EY _ _ _ _ bS (by rw [mJ, kb]), ?_⟩
      ·have FJ : off + n ≤ A.size := by
        have : A.size = A.toList.length := by simp
        rw [this, ju]; simp [hW, KA, KB, kb]
       simp only [Instr.fill, eK, ph, List.size_toArray, vC, mJ]
       have mf : ¬ (n ≠ n ∨ A.size < off + n) := by omega
       have S4 : (cp v).toArray.zipIdx.foldl (fun cs (x : Value × Nat) => cs.setIfInBounds (off + x.2) x.1) A = mD := by
        rw [← yk, ← Array.foldl_toList]; simp
       simp only [ne_eq, not_true_eq_false, decide_false, Bool.false_or, decide_eq_true_eq, gt_iff_lt]
       rw [if_neg (by simp; omega)]
       rw [show (cp v).toArray.zipIdx.foldl (fun cs x => match x with | (c, j) => cs.setIfInBounds (off + j) c) A = mD from S4]
       exact m1
      ·intro FK yl
       refine m10 FK (EZ yl ?_)
       rw [mJ, ← kb]; exact yl z (List.mem_of_getElem? bS)
     ·cases he
    split at he
    ·cases he
    ·rename_i q4
     exact key _ (fun ax e => q4 ax e) a1 he
   ·cases he
 | [], _ :: _, _, _, _, _, _, _, _, aw, _, _, _, _, _, _, _, _ => aw.elim
 | _ :: _, [], _, _, _, _, _, _, _, aw, _, _, _, _, _, _, _, _ => aw.elim
def ev (C : b4) (s : al) (T : TypeId) (ps : List (Nat × I)) : Option (I × al) :=
 match (C.T T).k, (C.T T).zero with
 | .struct ax, .agg eL => if (flat (.agg eL)).isSome = true ∧ (∀ f ∈ ax, (C.T f.1).ok = true) then
   (match dF (fun k => (ax[k]?).map fun f => (f.2, (C.T f.1).sz)) s eL [] ps with
   | some (ds, s1) => some (.agg ds, s1)
   | none => none) else none
 | _, _ => none
def c9 (C : b4) (s : al) (T : TypeId) (n : Nat) (ps : List (Nat × I)) : Option (I × al) :=
 match (C.T T).k with
 | .slice e => if (C.T e).ok = true ∧ (C.T e).zero.wd = (C.T e).sz ∧ (flat (C.T e).zero).isSome = true ∧ (C.T e).sz ≠ 0 ∧ n * (C.T e).sz ≤ 16777216 then
   (match dF (fun k => some (k * (C.T e).sz, (C.T e).sz)) s (List.replicate n (C.T e).zero) [] ps with
   | some (ds, s1) => some (.au (C.T e).sz ds, s1)
   | none => none) else none
 | _ => none
theorem S5 (bp : C.eP) : ∀ (gs : List Field), (∀ g ∈ gs, (C.T g.type).ok = true) →
  gs.mapM (fun f => (C.P.info? f.type).map fun i => (f.offset, i.size)) = some (gs.map fun g => (g.offset, (C.T g.type).sz)) := by
 intro gs
 induction gs with
 | nil => intro _; simp
 | cons g gs ih =>
   intro bA
   obtain ⟨i, d, z, f1, f2, f3, f4, f5, f6, f7⟩ := bp.info (bA g (by simp))
   have := ih (fun g hY => bA g (by simp [hY]))
   simp [List.mapM_cons, f1, f2, this]
theorem S6 (bp : C.eP) (h : bM w0 F0 X F S s aB w) {T : TypeId} {ps : List (Nat × I)} {vs : List (Nat × Value)} (aw : oj w F s aB ps vs) (he : ev C s T ps = some (av, s1)) :
  Good C w0 F0 X aB w (Instr.build T vs.toArray) av s1 := by
 unfold ev at he
 split at he
 ·rename_i ax eL ar bS
  split at he
  ·rename_i ao
   obtain ⟨q9, S7⟩ := ao
   split at he
   ·rename_i ds s2 iu
    simp only [Option.some.injEq, Prod.mk.injEq] at he
    obtain ⟨rfl, rfl⟩ := he
    obtain ⟨i, d, z, aN, aZ, aT, b2, cI, bZ, bO⟩ := bp.info (gq ar (by simp))
    rw [ar] at bO
    obtain ⟨gs, rfl, KD⟩ := x1 bO
    obtain ⟨e9, mi⟩ := Option.isSome_iff_exists.1 q9
    have q_ := cI e9 (by rw [bS]; exact mi)
    have ha : bf w F eL e9.toArray.toList (fun _ => False) := by
     have := (ay.flat (w := w) (F := F) _).1 (.agg eL) e9 (fun _ => False) (Nat.le_refl _) mi
     rw [ay] at this
     simpa using this
    have ew : oj w F s aB (ps.map fun p => (p.1, lr [] p.2)) vs := by simpa [lr] using aw
    obtain ⟨mI, cc, hi, m1, m2, m3, m4, m5, m6, m7, m8, m9, m10⟩ := FI ps vs [] s S eL e9.toArray (fun _ => False) h ew ha (fun _ h => h.elim) (fun _ h => h.elim) (fun _ _ h => h.elim) (fun _ h => h.elim) ds s2 iu
    have eK := S5 bp gs.toList (fun g bA => S7 (g.type, g.offset) (by rw [← KD]; exact List.mem_map_of_mem bA))
    have S8 : (fun (k : Nat) => (ax[k]?).map fun (f : TypeId × Nat) => (f.2, (C.T f.1).sz)) = fun (k : Nat) => ((gs.toList.map fun g => (g.offset, (C.T g.type).sz)).toArray)[k]? := by
     funext k
     rw [← KD]
     simp only [List.getElem?_map, List.getElem?_toArray, Option.map_map]
     rfl
    rw [S8] at m1
    refine ⟨.agg mI, w, F, cc, run_build w T vs.toArray mI ?_, m2, .inr ⟨rfl, ⟨_, rfl⟩, hi, by simp only [cp, iG]; rw [ay]; exact m3, m4, m5, m6, m7⟩⟩
    unfold Program.built
    simp only [aN, bZ, b2, eK, q_]
    exact m1
   ·cases he
  ·cases he
 ·cases he
theorem S9 (bp : C.eP) (h : bM w0 F0 X F S s aB w) {T : TypeId} {n : Nat} {ps : List (Nat × I)} {vs : List (Nat × Value)} (aw : oj w F s aB ps vs) (he : c9 C s T n ps = some (av, s1)) :
  Good C w0 F0 X aB w (Instr.buildSlice T n vs.toArray) av s1 := by
 unfold c9 at he
 split at he
 ·rename_i e ar
  split at he
  ·rename_i ao
   obtain ⟨pk, qa, q9, d_, ayW⟩ := ao
   split at he
   ·rename_i ds s2 iu
    simp only [Option.some.injEq, Prod.mk.injEq] at he
    obtain ⟨rfl, rfl⟩ := he
    obtain ⟨Fy, d, Fz, aN, aZ, aT, b2, cI, bZ, bO⟩ := bp.info (gq ar (by simp))
    rw [ar] at bO
    have := lR bO; subst this
    obtain ⟨i, FA, z, f1, f2, f3, f4, f5, f6, f7⟩ := bp.info pk
    obtain ⟨e9, mi⟩ := Option.isSome_iff_exists.1 q9
    have q_ := f5 e9 mi
    have ha : ∀ aR, ay w F (C.T e).zero e9 aR := fun aR => (ay.flat _).1 _ e9 aR (Nat.le_refl _) mi
    have po : e9.length = (C.T e).sz := by rw [ay.length _ _ _ (ha (fun _ => False)), qa]
    generalize ju : ((Array.range (n * (C.T e).sz)).map ((if n * (C.T e).sz = 0 then #[] else e9.toArray)[· % (if n * (C.T e).sz = 0 then (#[] : Array Value) else e9.toArray).size]!)) = A
    have FJ : A.toList = (List.replicate n e9).flatten := by
     rw [← ju]
     by_cases bn : n * (C.T e).sz = 0
     ·have : n = 0 := by
       rcases Nat.mul_eq_zero.1 bn with h | h
       ·exact h
       ·exact (d_ h).elim
      subst this
      simp
     ·simp only [bn, if_false]
      have := Bd e9 n
      rw [po] at this
      simpa [po] using this
    have ew : oj w F s aB (ps.map fun p => (p.1, lr [] p.2)) vs := by simpa [lr] using aw
    obtain ⟨mI, cc, hi, m1, m2, m3, m4, m5, m6, m7, m8, m9, m10⟩ := FI ps vs [] s S (List.replicate n (C.T e).zero) A (fun _ => False) h ew (by rw [FJ]; exact bf.replicate ha n _) (fun _ h => h.elim) (fun _ h => h.elim) (fun _ _ h => h.elim) (fun _ h => h.elim) ds s2 iu
    have hlen : ds.length = n := by rw [m8]; simp
    have KE := m10 (C.T e).sz (by intro d ai; rw [List.eq_of_mem_replicate ai]; exact qa)
    have S_ : mI.toList.length = n * (C.T e).sz := by rw [bf.ts m3 KE, hlen]
    have Ta : mI.size = n * (C.T e).sz := by rw [← S_]; simp
    have ayX : n ≤ 16777216 := by
     have : n * 1 ≤ n * (C.T e).sz := Nat.mul_le_mul_left _ (by omega)
     omega
    have kJ := m2.ya (aL := w.alloc (.cells mI e)) (sz := (C.T e).sz) (cap := n) (xs := ds) (cur := mI) (e := e) (fr := (0, 0)) (Sn := hi) rfl rfl rfl rfl
     (fun o _ ⟨_, ag⟩ => absurd ag (Nat.not_lt_zero _)) (by omega) (by unfold maxLen; omega) Ta KE (by rw [hlen, List.take_of_length_le (by omega)]; exact m3) m4 m5 m6 m7
    rw [hlen] at kJ
    refine ⟨_, _, F, cc, ?_, kJ.1, kJ.2⟩
    by_cases bn : n * (C.T e).sz = 0
    ·simp only [bn, if_true] at ju
     have vD : (Array.map (fun _ => (default : Value)) (Array.range 0)) = A := by
      have : n = 0 := by
       rcases Nat.mul_eq_zero.1 bn with h | h
       ·exact h
       ·exact (d_ h).elim
      apply Array.ext'
      rw [FJ, this]
      simp
     simp [Instr.buildSlice, run_underlying bZ, kp f1, f2, bn, newRow]
     rw [vD, m1]
     simp
    ·simp only [bn, if_false] at ju
     have mf : ¬ (16777216 < n * (C.T e).sz) := by omega
     simp [Instr.buildSlice, run_underlying bZ, kp f1, f2, bn, mf, r0 f1 f4, q_, newRow]
     have vD : (Array.map (fun x => e9[x % e9.length]?.getD default) (Array.range (n * (C.T e).sz))) = A := by
      rw [← ju]; simp
     rw [vD, m1]
     simp
   ·cases he
  ·cases he
 ·cases he
end
inductive fG where
 | cz (x : aH)
 | fu (x : aH)
 | pick (c a b : aH)
 | g_ (T : TypeId)
 | dj (T : TypeId) (x : aH)
 | ev (T : TypeId) (ps : List (Nat × aH))
 | c9 (T : TypeId) (n : Nat) (ps : List (Nat × aH))
 | cS (T : TypeId) (x : aH)
 | gr (T : TypeId) (x y : aH)
 | fs (x : aH)
 | cf (op : BinOp) (T : TypeId) (x y : aH)
 | un (op : UnOp) (x : aH)
 | gv (A B : TypeId) (x : aH)
 | ji (f : FuncId) (cs : List aH)
 | e7 (T : TypeId) (l c : aH)
 | fh (T : TypeId) (x : aH) (df an : Option aH)
 | di (T : TypeId) (x : aH) (k : Nat)
 | eX (T : TypeId) (x i : aH)
 | idx (T : TypeId) (x i : aH)
 | ex (x : aH) (k : Nat)
 | mE (T : TypeId) (x : aH) (k : Nat)
 | call (f : aH) (args : List aH)
 | len (T : TypeId) (x : aH)
 | app (T bR : TypeId) (x y : aH)
 | shr (bD : fG)
 | oi (T bR : TypeId) (x y : aH)
 | cap (T : TypeId) (x : aH)
 | qe (hh : Bool) (x y : aH)
 | bad
 | nc (f : aH) (args : List aH) (u x : Nat)
 | nd (f : aH) (args : List aH) (us : List Nat)
 | kc (T : TypeId) (x : aH)
 | nI (x : aH)
 | mj (x : aH)
 | qf
 | iJ (T : TypeId) (x i : aH)
 | jF (T : TypeId) (x i v : aH)
def fG.base : fG → fG
 | .shr bD => bD
 | .oi T bR x y => .app T bR x y
 | .nc f args _ _ => .call f args
 | .nd f args _ => .call f args
 | .kc T x => .dj T x
 | .nI x => .fu x
 | .mj x => .cz x
 | bD => bD
def pt : List Operand → Option (List aH)
 | [] => some []
 | o :: os => match dz o, pt os with
   | some x, some xs => some (x :: xs)
   | _, _ => none
def vE : List (Nat × Operand) → Option (List (Nat × aH))
 | [] => some []
 | (k, o) :: os => match dz o, vE os with
   | some x, some xs => some ((k, x) :: xs)
   | _, _ => none
def ym : Option Operand → Option (Option aH)
 | none => some none
 | some o => (dz o).map some
def cr : Op → Option fG
 | .move x => (dz x).map .cz
 | .assign x => (dz x).map .fu
 | .pick c a b => match dz c, dz a, dz b with
   | some c, some a, some b => some (.pick c a b)
   | _, _, _ => none
 | .alloc T => some (.g_ T)
 | .box T x => (dz x).map (.dj T)
 | .build T ps => (vE ps.toList).map (.ev T)
 | .buildSlice T n ps => (vE ps.toList).map (.c9 T n)
 | .load T x => (dz x).map (.cS T)
 | .store T x y => match dz x, dz y with
   | some x, some y => some (.gr T x y)
   | _, _ => none
 | .nilCheck x => (dz x).map .fs
 | .binOp op T x y _ => match dz x, dz y with
   | some x, some y => some (.cf op T x y)
   | _, _ => none
 | .unOp op _ x => (dz x).map (.un op)
 | .convert A B x => (dz x).map (.gv A B)
 | .makeFunc (.func f) first cs => if first.isEmpty then (pt cs.toList).map (.ji f) else none
 | .makeSlice T l c => match dz l, dz c with
   | some l, some c => some (.e7 T l c)
   | _, _ => none
 | .slice T x df an none => match dz x, ym df, ym an with
   | some x, some df, some an => some (.fh T x df an)
   | _, _, _ => none
 | .fieldAddr T x k => (dz x).map fun x => .di T x k
 | .indexAddr T x i => match dz x, dz i with
   | some x, some i => some (.eX T x i)
   | _, _ => none
 | .index T x i => match dz x, dz i with
   | some x, some i => some (.idx T x i)
   | _, _ => none
 | .extract x k => (dz x).map fun x => .ex x k
 | .field T x k => (dz x).map fun x => .mE T x k
 | .makeMap _ none => some .qf
 | .lookup T x i false => match dz x, dz i with
   | some x, some i => some (.iJ T x i)
   | _, _ => none
 | .mapUpdate T x i v => match dz x, dz i, dz v with
   | some x, some i, some v => some (.jF T x i v)
   | _, _, _ => none
 | .call c => match c.callee with
   | .value f => match dz f, pt c.args.toList with
     | some f, some xs => some (.call f xs)
     | _, _ => none
   | .builtin .len => match c.args.toList, c.argTypes.toList with
     | [x], [T] => (dz x).map (.len T)
     | _, _ => none
   | .builtin .cap => match c.args.toList, c.argTypes.toList with
     | [x], [T] => (dz x).map (.cap T)
     | _, _ => none
   | .builtin .min => match c.args.toList with
     | [x, y] => match dz x, dz y with
       | some x, some y => some (.qe false x y)
       | _, _ => none
     | _ => none
   | .builtin .max => match c.args.toList with
     | [x, y] => match dz x, dz y with
       | some x, some y => some (.qe true x y)
       | _, _ => none
     | _ => none
   | .builtin .append => match c.args.toList, c.argTypes.toList with
     | [x, y], [T, bR] => match dz x, dz y with
       | some x, some y => some (.app T bR x y)
       | _, _ => none
     | _, _ => none
   | _ => none
 | _ => none
def qe (hh : Bool) : I → I → Option I
 | .str a, .str b => some (.str (AP hh a b))
 | .int k a, .int cL b => if k = cL then some (.int k (EV hh a b)) else none
 | _, _ => none
def qg (s : al) : I → Option (I × al)
 | .h y q => cO s (.h y q)
 | d => some (d, s)
def bB (C : b4) (s : al) : fG → Option (I × al)
 | .cz x => some (aJ s x, s)
 | .fu x => match aJ s x with
   | .h y q => cO s (.h y q)
   | d => some (d, s)
 | .pick c a b => match aJ s c with
   | .bool fX => some (if fX then aJ s a else aJ s b, s)
   | _ => none
 | .g_ T => (g_ C T).map fun d => (d, s)
 | .dj _ x => dj s (aJ s x)
 | .ev T ps => ev C s T (ps.map fun p => (p.1, aJ s p.2))
 | .c9 T n ps => c9 C s T n (ps.map fun p => (p.1, aJ s p.2))
 | .cS T x => (cS C s T (aJ s x)).map fun d => (d, s)
 | .gr T x y => (gr C s T (aJ s x) (aJ s y)).map fun s1 => (.hole, s1)
 | .fs x => (fs s (aJ s x)).map fun d => (d, s)
 | .cf op T x y => (cf C s op T (aJ s x) (aJ s y)).map fun d => (d, s)
 | .un op x => (un op (aJ s x)).map fun d => (d, s)
 | .gv A B x => (gv C s A B (aJ s x)).map fun d => (d, s)
 | .ji f cs => some (.fn f (cs.map (aJ s)), s)
 | .e7 T l c => (e7 C T (aJ s l) (aJ s c)).map fun d => (d, s)
 | .fh T x df an => fh C s T (aJ s x) (df.map (aJ s)) (an.map (aJ s))
 | .di T x k => (di C s T (aJ s x) k).map fun d => (d, s)
 | .eX T x i => (eX C s T (aJ s x) (aJ s i)).map fun d => (d, s)
 | .idx T x i => (idx C T (aJ s x) (aJ s i)).map fun d => (d, s)
 | .ex x k => (ex s (aJ s x) k).map fun d => (d, s)
 | .mE T x k => (mE C s T (aJ s x) k).bind (qg s)
 | .call _ _ => none
 | .len T x => (mF C s T (aJ s x)).map fun d => (d, s)
 | .app T bR x y => mH C s T bR (aJ s x) (aJ s y)
 | .shr _ => none
 | .nc _ _ _ _ => none
 | .nd _ _ _ => none
 | .kc _ x => kc s (aJ s x)
 | .nI x => some (aJ s x, s)
 | .mj x => qg s (aJ s x)
 | .qf => some (.ct (.mp []), s)
 | .iJ T x i => (iJ C s T (aJ s x) (aJ s i)).map fun d => (d, s)
 | .jF T x i v => (jF C s T (aJ s x) (aJ s i) (aJ s v)).map fun s1 => (.hole, s1)
 | .oi T bR x y => (oi C T bR (aJ s x) (aJ s y)).map fun d => (d, s)
 | .cap T x => match (C.T T).k, aJ s x with
   | .slice _, .bo => some (.int .i64 0, s)
   | _, _ => none
 | .qe hh x y => (qe hh (aJ s x) (aJ s y)).map fun d => (d, s)
 | .bad => none
section
variable {C : b4} {w0 w : World} {F0 X F : Nat → Prop} {S : Nat → Nat → Prop} {s s1 : al} {a : Act} {av : I}
theorem tx : ∀ {os : List Operand} {xs : List aH}, pt os = some xs → os.map dz = xs.map some
 | [], xs, h => by simp [pt] at h; subst h; rfl
 | o :: os, xs, h => by
   simp only [pt] at h
   split at h
   ·rename_i x KF af ag
    simp at h; subst h
    simp [af, tx ag]
   ·cases h
theorem FL {aB : Nat → Value} (h : bM w0 F0 X F S s aB w) (ek : ∀ t, aB t = a.tmps.getD t undef) : ∀ {ps : List (Nat × Operand)} {xs : List (Nat × aH)}, vE ps = some xs →
  oj w F s aB (xs.map fun p => (p.1, aJ s p.2)) (ps.map fun p => (p.1, a.eval p.2))
 | [], xs, h => by simp [vE] at h; subst h; trivial
 | (k, o) :: ps, xs, bE => by
   simp only [vE] at bE
   split at bE
   ·rename_i x KF af ag
    simp at bE; subst bE
    obtain ⟨g1, g2⟩ := fg h ek af
    exact ⟨rfl, g1, g2, FL h ek ag⟩
   ·cases bE
def Next (C : b4) (w0 : World) (F0 X : Nat → Prop) (aB : Nat → Value) (w : World) (m : Sem Go.Next) (av : I) (s1 : al) : Prop :=
 ∃ r aL v bQ aR, m.run C.P w = .ok r aL ∧ (r = .value v ∨ r = .skip ∧ v = undef) ∧ bM w0 F0 X bQ aR s1 aB aL ∧ lQ w0 X bQ aR s1 aB aL av v
theorem Good.next {aB : Nat → Value} {m : Sem Value} (h : Good C w0 F0 X aB w m av s1) : Next C w0 F0 X aB w (do pure (.value (← m))) av s1 := by
 obtain ⟨v, aL, bQ, aR, af, ag, aF⟩ := h
 exact ⟨.value v, aL, v, bQ, aR, by simp [af], .inl rfl, ag, aF⟩
theorem KG {aB : Nat → Value} (h : bM w0 F0 X F S s aB w) {hh : Bool} {x y : I} {h_ jf : Value} {m : Sem Go.Next} (af : aI w F s aB x h_ (fun _ => False)) (ag : aI w F s aB y jf (fun _ => False))
  (he : (qe hh x y).map (fun d => (d, s)) = some (av, s1)) (hm : m = (do pure (.value (← if hh then Builtin.max2 h_ jf else Builtin.min2 h_ jf)))) : Next C w0 F0 X aB w m av s1 := by
 simp only [Option.map_eq_some_iff, Prod.mk.injEq] at he
 obtain ⟨d, ai, rfl, rfl⟩ := he
 unfold qe at ai
 split at ai
 ·rename_i a b
  simp only [Option.some.injEq] at ai; subst ai
  have aN := nF af
  have aZ := nF ag
  subst aN aZ
  subst hm
  refine ⟨.value (.string ⟨⟨AP hh a b⟩⟩), w, _, F, S, ?_, .inl rfl, h, .inl ⟨rfl, oa _⟩⟩
  cases hh
  ·simp only [Builtin.min2, Op.stringOp, x6, AP, Bool.false_eq_true, if_false]
   cases aa : (Op.bytesLess a b || a == b) <;> simp [asBool]
  ·simp only [Builtin.max2, Op.stringOp, x6, AP, if_true]
   cases aa : Op.bytesLess a b <;> simp [asBool]
 ·rename_i k a cL b
  split at ai
  ·rename_i ar
   subst ar
   simp only [Option.some.injEq] at ai; subst ai
   have aN := nE af
   have aZ := nE ag
   subst aN aZ
   subst hm
   refine ⟨.value (.int k (EV hh a b)), w, _, F, S, ?_, .inl rfl, h, .inl ⟨rfl, of_int _ _⟩⟩
   cases hh <;> simp [Builtin.min2, Builtin.max2, EV]
  ·cases ai
 ·cases ai
theorem KH (bp : C.eP) {aB : Nat → Value} (h : bM w0 F0 X F S s aB w) (ek : ∀ t, aB t = a.tmps.getD t undef) {o : Oper} {bD : fG} (ab : cr o.op = some bD) (he : bB C s bD = some (av, s1)) :
  Next C w0 F0 X aB w (execOp a.eval o) av s1 := by
 obtain ⟨dst, op, ty, pos, after, guard⟩ := o
 simp only at ab
 cases op with
 | move x =>
   simp only [cr, Option.map_eq_some_iff] at ab
   obtain ⟨cA, aq, rfl⟩ := ab
   obtain ⟨g1, g2⟩ := fg h ek aq
   simp only [bB, Option.some.injEq, Prod.mk.injEq] at he
   obtain ⟨rfl, rfl⟩ := he
   exact ⟨_, w, _, F, S, rfl, .inl rfl, h, .inl ⟨g1, g2⟩⟩
 | assign x =>
   simp only [cr, Option.map_eq_some_iff] at ab
   obtain ⟨cA, aq, rfl⟩ := ab
   obtain ⟨g1, g2⟩ := fg h ek aq
   simp only [bB] at he
   split at he
   ·rename_i y q hy
    rw [hy] at g1 g2
    obtain ⟨cc, k0, bt, b0, Sn, dK, de, dI, dX, jh, _⟩ := pd h g1 g2 he
    exact ⟨_, w, _, F, cc, rfl, .inl rfl, k0, .inr ⟨bt, b0, Sn, dK, de, dI, dX, jh⟩⟩
   ·simp only [Option.some.injEq, Prod.mk.injEq] at he
    obtain ⟨rfl, rfl⟩ := he
    exact ⟨_, w, _, F, S, rfl, .inl rfl, h, .inl ⟨g1, g2⟩⟩
 | pick c x y =>
   simp only [cr] at ab
   split at ab
   ·rename_i yn cA kH ao aq hy
    simp only [Option.some.injEq] at ab; subst ab
    simp only [bB] at he
    split at he
    ·rename_i b aa
     simp only [Option.some.injEq, Prod.mk.injEq] at he
     obtain ⟨rfl, rfl⟩ := he
     have tv := (fg h ek ao).2
     rw [aa] at tv
     have tv := r3 tv
     obtain ⟨ah, ak⟩ := fg h ek aq
     obtain ⟨fM, iT⟩ := fg h ek hy
     refine ⟨.value (if b then a.eval x else a.eval y), w, _, F, S, ?_, .inl rfl, h, .inl ?_⟩
     ·simp [execOp, tv, asBool]
     ·cases b
      ·exact ⟨fM, iT⟩
      ·exact ⟨ah, ak⟩
    ·cases he
   ·cases ab
 | alloc T =>
   simp only [cr, Option.some.injEq] at ab; subst ab
   simp only [bB, Option.map_eq_some_iff, Prod.mk.injEq] at he
   obtain ⟨d, ai, rfl, rfl⟩ := he
   exact (R5 bp h ai).next
 | box T x =>
   simp only [cr, Option.map_eq_some_iff] at ab
   obtain ⟨cA, aq, rfl⟩ := ab
   obtain ⟨g1, g2⟩ := fg h ek aq
   exact (R8 h g1 g2 he).next
 | build T ps =>
   simp only [cr, Option.map_eq_some_iff] at ab
   obtain ⟨Tb, aw, rfl⟩ := ab
   obtain ⟨ps⟩ := ps
   have := (S6 bp h (FL h ek aw) he).next
   simpa [execOp] using this
 | buildSlice T n ps =>
   simp only [cr, Option.map_eq_some_iff] at ab
   obtain ⟨Tb, aw, rfl⟩ := ab
   obtain ⟨ps⟩ := ps
   have := (S9 bp h (FL h ek aw) he).next
   simpa [execOp] using this
 | load T x =>
   simp only [cr, Option.map_eq_some_iff] at ab
   obtain ⟨cA, aq, rfl⟩ := ab
   obtain ⟨g1, g2⟩ := fg h ek aq
   simp only [bB, Option.map_eq_some_iff, Prod.mk.injEq] at he
   obtain ⟨d, ai, rfl, rfl⟩ := he
   exact (R0 bp h g2 ai).next
 | store T x y =>
   simp only [cr] at ab
   split at ab
   ·rename_i cA kH aq hy
    simp only [Option.some.injEq] at ab; subst ab
    simp only [bB, Option.map_eq_some_iff, Prod.mk.injEq] at he
    obtain ⟨s2, ai, rfl, rfl⟩ := he
    obtain ⟨aL, aR, af, ag⟩ := R3 bp h (fg h ek aq).2 (fg h ek hy).1 (fg h ek hy).2 ai
    exact ⟨.skip, aL, undef, F, aR, by simp [execOp, af], .inr ⟨rfl, rfl⟩, ag, .inl ⟨rfl, by rw [aI]; trivial⟩⟩
   ·cases ab
 | nilCheck x =>
   simp only [cr, Option.map_eq_some_iff] at ab
   obtain ⟨cA, aq, rfl⟩ := ab
   obtain ⟨g1, g2⟩ := fg h ek aq
   simp only [bB, Option.map_eq_some_iff, Prod.mk.injEq] at he
   obtain ⟨d, ai, rfl, rfl⟩ := he
   obtain ⟨rfl, aw, aK⟩ := Sl h g2 ai
   refine ⟨.value (a.eval x), w, _, F, S, ?_, .inl rfl, h, .inl ⟨aw, g2⟩⟩
   rcases aK with ⟨b, aa⟩ | ⟨f, c, aa⟩ <;> simp [execOp, aa]
 | binOp op T x y ayY =>
   simp only [cr] at ab
   split at ab
   ·rename_i cA kH aq hy
    simp only [Option.some.injEq] at ab; subst ab
    simp only [bB, Option.map_eq_some_iff, Prod.mk.injEq] at he
    obtain ⟨d, ai, rfl, rfl⟩ := he
    exact (Si bp h x y (fg h ek aq).2 (fg h ek hy).2 ai).next
   ·cases ab
 | unOp op T x =>
   simp only [cr, Option.map_eq_some_iff] at ab
   obtain ⟨cA, aq, rfl⟩ := ab
   simp only [bB, Option.map_eq_some_iff, Prod.mk.injEq] at he
   obtain ⟨d, ai, rfl, rfl⟩ := he
   exact (Sj h (fg h ek aq).2 ai).next
 | convert A B x =>
   simp only [cr, Option.map_eq_some_iff] at ab
   obtain ⟨cA, aq, rfl⟩ := ab
   simp only [bB, Option.map_eq_some_iff, Prod.mk.injEq] at he
   obtain ⟨d, ai, rfl, rfl⟩ := he
   exact (Sv bp h (fg h ek aq).2 ai).next
 | makeFunc fn first cs =>
   cases fn with
   | func f =>
     simp only [cr] at ab
     split at ab
     ·rename_i FM
      simp only [Option.map_eq_some_iff] at ab
      obtain ⟨om, iI, rfl⟩ := ab
      simp only [bB, Option.some.injEq, Prod.mk.injEq] at he
      obtain ⟨rfl, rfl⟩ := he
      have FN : first = #[] := by simpa using FM
      subst FN
      refine ⟨_, w, _, F, S, rfl, .inl rfl, h, .inl ⟨rfl, ?_⟩⟩
      rw [aI]
      refine ⟨cs.map a.eval, by simp, ?_⟩
      simpa using Bg h ek _ _ (tx iI)
     ·cases ab
   | _ => simp [cr] at ab
 | makeSlice T l c =>
   simp only [cr] at ab
   split at ab
   ·rename_i cA kH aq hy
    simp only [Option.some.injEq] at ab; subst ab
    simp only [bB, Option.map_eq_some_iff, Prod.mk.injEq] at he
    obtain ⟨d, ai, rfl, rfl⟩ := he
    exact (SX bp h (fg h ek aq).2 (fg h ek hy).2 ai).next
   ·cases ab
 | slice T x df an hh =>
   cases hh with
   | some m => simp [cr] at ab
   | none =>
     simp only [cr] at ab
     split at ab
     ·rename_i cA ayZ KI aq oc od
      simp only [Option.some.injEq] at ab; subst ab
      obtain ⟨g1, g2⟩ := fg h ek aq
      have opt : ∀ {o : Option Operand} {nJ : Option aH}, ym o = some nJ → q7 w F s aB (nJ.map (aJ s)) (o.map a.eval) := by
       intro o nJ bJ
       cases o with
       | none => simp [ym] at bJ; subst bJ; trivial
       | some o =>
         simp only [ym, Option.map_eq_some_iff] at bJ
         obtain ⟨x, aq, rfl⟩ := bJ
         exact (fg h ek aq).2
      exact (Sz bp h g1 g2 (opt oc) (opt od) he).next
     ·cases ab
 | fieldAddr T x k =>
   simp only [cr, Option.map_eq_some_iff] at ab
   obtain ⟨cA, aq, rfl⟩ := ab
   obtain ⟨g1, g2⟩ := fg h ek aq
   simp only [bB, Option.map_eq_some_iff, Prod.mk.injEq] at he
   obtain ⟨d, ai, rfl, rfl⟩ := he
   exact (RU bp h g1 g2 ai).next
 | indexAddr T x i =>
   simp only [cr] at ab
   split at ab
   ·rename_i cA kH aq hy
    simp only [Option.some.injEq] at ab; subst ab
    simp only [bB, Option.map_eq_some_iff, Prod.mk.injEq] at he
    obtain ⟨d, ai, rfl, rfl⟩ := he
    exact (RV bp h (fg h ek aq).2 (fg h ek hy).2 ai).next
   ·cases ab
 | index T x i =>
   simp only [cr] at ab
   split at ab
   ·rename_i cA kH aq hy
    simp only [Option.some.injEq] at ab; subst ab
    simp only [bB, Option.map_eq_some_iff, Prod.mk.injEq] at he
    obtain ⟨d, ai, rfl, rfl⟩ := he
    exact (Ss bp h (fg h ek aq).2 (fg h ek hy).2 ai).next
   ·cases ab
 | makeMap t r =>
   cases r with
   | none =>
     simp only [cr, Option.some.injEq] at ab; subst ab
     simp only [bB, Option.some.injEq, Prod.mk.injEq] at he
     obtain ⟨rfl, rfl⟩ := he
     exact (SW h t).next
   | some r => simp [cr] at ab
 | lookup T x i c =>
   cases c with
   | true => simp [cr] at ab
   | false =>
     simp only [cr] at ab
     split at ab
     ·rename_i cA q2 aq an
      simp only [Option.some.injEq] at ab; subst ab
      simp only [bB, Option.map_eq_some_iff, Prod.mk.injEq] at he
      obtain ⟨d, ai, rfl, rfl⟩ := he
      exact (SS bp h (fg h ek aq).2 (fg h ek an).2 ai).next
     ·cases ab
 | mapUpdate T x i v =>
   simp only [cr] at ab
   split at ab
   ·rename_i cA q2 gB aq an aK
    simp only [Option.some.injEq] at ab; subst ab
    simp only [bB, Option.map_eq_some_iff, Prod.mk.injEq] at he
    obtain ⟨s2, ai, rfl, rfl⟩ := he
    obtain ⟨aL, aR, af, ag⟩ := SU bp h (fg h ek aq).2 (fg h ek an).2 (fg h ek aK).2 ai
    exact ⟨.skip, aL, undef, F, aR, by simp [execOp, af], .inr ⟨rfl, rfl⟩, ag, .inl ⟨rfl, by rw [aI]; trivial⟩⟩
   ·cases ab
 | extract x k =>
   simp only [cr, Option.map_eq_some_iff] at ab
   obtain ⟨cA, aq, rfl⟩ := ab
   simp only [bB, Option.map_eq_some_iff, Prod.mk.injEq] at he
   obtain ⟨d, ai, rfl, rfl⟩ := he
   exact (Sp h (fg h ek aq).2 ai).next
 | field T x k =>
   simp only [cr, Option.map_eq_some_iff] at ab
   obtain ⟨cA, aq, rfl⟩ := ab
   simp only [bB, Option.bind_eq_some_iff] at he
   obtain ⟨d, ai, he⟩ := he
   obtain ⟨v, aL, bQ, aR, aW, mA, pb⟩ := Sq bp h (fg h ek aq).2 ai
   unfold qg at he
   split at he
   ·rename_i y q
    have Tc : aI aL bQ s aB (.h y q) v (fun _ => False) := by
     rcases pb with ⟨_, g2⟩ | ⟨g1, _⟩
     ·exact g2
     ·cases g1
    obtain ⟨cc, k0, bt, b0, Sn, dK, de, dI, dX, jh, _⟩ := pd mA rfl Tc he
    exact ⟨.value v, aL, v, bQ, cc, by simp [execOp, aW], .inl rfl, k0, .inr ⟨bt, b0, Sn, dK, de, dI, dX, jh⟩⟩
   ·simp only [Option.some.injEq, Prod.mk.injEq] at he
    obtain ⟨rfl, rfl⟩ := he
    exact ⟨.value v, aL, v, bQ, aR, by simp [execOp, aW], .inl rfl, mA, pb⟩
 | call c =>
   obtain ⟨callee, args, argTypes⟩ := c
   simp only [cr] at ab
   split at ab
   ·split at ab
    ·simp only [Option.some.injEq] at ab; subst ab
     simp [bB] at he
    ·cases ab
   ·split at ab
    ·rename_i x T nf tz
     simp only [Option.map_eq_some_iff] at ab
     obtain ⟨cA, aq, rfl⟩ := ab
     simp only [bB, Option.map_eq_some_iff, Prod.mk.injEq] at he
     obtain ⟨d, ai, rfl, rfl⟩ := he
     have := (St (ty := ty) bp h (fg h ek aq).2 ai).next
     have aN : args = #[x] := by apply Array.ext'; exact nf
     have aZ : argTypes = #[T] := by apply Array.ext'; exact tz
     subst aN aZ
     simpa [execOp, resolve, invoke, builtin] using this
    ·cases ab
   ·split at ab
    ·rename_i x T nf tz
     simp only [Option.map_eq_some_iff] at ab
     obtain ⟨cA, aq, rfl⟩ := ab
     simp only [bB] at he
     split at he
     ·rename_i e ar Td
      simp only [Option.some.injEq, Prod.mk.injEq] at he
      obtain ⟨rfl, rfl⟩ := he
      have aK := (fg h ek aq).2
      rw [Td] at aK
      have := q6 aK
      obtain ⟨i, d, z, aN, aZ, aT, b2, cI, bZ, bO⟩ := bp.info (gq ar (by simp))
      rw [ar] at bO
      have ai := lR bO; subst ai
      have Te : args = #[x] := by apply Array.ext'; exact nf
      have Tf : argTypes = #[T] := by apply Array.ext'; exact tz
      subst Te Tf
      have aW : (Builtin.cap_ #[T] ty #[a.eval x]).run C.P w = .ok (.int .i64 0) w := by
       rw [this]; simp [Builtin.cap_, run_underlying bZ, goInt]
      have := (Good.same (av := .int .i64 0) h aW rfl (of_int _ _)).next
      simpa [execOp, resolve, invoke, builtin] using this
     ·cases he
    ·cases ab
   ·split at ab
    ·rename_i x y nf
     split at ab
     ·rename_i cA kH aq hy
      simp only [Option.some.injEq] at ab; subst ab
      have aN : args = #[x, y] := by apply Array.ext'; exact nf
      subst aN
      exact KG h (fg h ek aq).2 (fg h ek hy).2 he (by simp [execOp, resolve, invoke, builtin, Builtin.min_])
     ·cases ab
    ·cases ab
   ·split at ab
    ·rename_i x y nf
     split at ab
     ·rename_i cA kH aq hy
      simp only [Option.some.injEq] at ab; subst ab
      have aN : args = #[x, y] := by apply Array.ext'; exact nf
      subst aN
      exact KG h (fg h ek aq).2 (fg h ek hy).2 he (by simp [execOp, resolve, invoke, builtin, Builtin.max_])
     ·cases ab
    ·cases ab
   ·split at ab
    ·rename_i x y T bR nf tz
     split at ab
     ·rename_i cA kH aq hy
      simp only [Option.some.injEq] at ab; subst ab
      have := (SJ (ty := ty) bp h (fg h ek aq).2 (fg h ek hy).2 he).next
      have aN : args = #[x, y] := by apply Array.ext'; exact nf
      have aZ : argTypes = #[T, bR] := by apply Array.ext'; exact tz
      subst aN aZ
      simpa [execOp, resolve, invoke, builtin] using this
     ·cases ab
    ·cases ab
   ·cases ab
 | _ => simp [cr] at ab
end
mutual
def I.ab : I → List Nat
 | .h x _ => [x]
 | .aw x _ => [x]
 | .aa x _ => [x]
 | .fn _ cap => I.dV cap
 | _ => []
def I.dV : List I → List Nat
 | [] => []
 | d :: ds => d.ab ++ I.dV ds
end
inductive qh where
 | no
 | cj
 | cR
structure ho where
 k : qh
 x : Nat
 d : I
def qh.app (k : qh) (x : Nat) (a : I) : I := match k with
 | .no => a
 | .cj => cY.cj x a
 | .cR => cY.cR x a
def ho.at (m : ho) (u : Nat) (a : I) : I := if u = m.x then m.d else m.k.app m.x a
def kq : List ho → Nat → I → I
 | [], _, a => a
 | m :: ms, u, a => kq ms u (m.at u a)
def dA (ms : List ho) (s : al) : al := fun u => kq ms u (s u)
theorem KJ : ∀ (ms lv : List ho) (u : Nat) (a : I), kq (ms ++ lv) u a = kq lv u (kq ms u a)
 | [], _, _, _ => rfl
 | m :: ms, lv, u, a => by simp only [List.cons_append, kq]; exact KJ ms lv u _
theorem ml (ms lv : List ho) (s : al) : dA (ms ++ lv) s = dA lv (dA ms s) := by
 funext u; simp [dA, KJ]
theorem Tg {ms : List ho} {s az : al} {u : Nat} (h : az u = s u) : dA ms az u = dA ms s u := by simp [dA, h]
theorem tA (s : al) (x : Nat) (d : I) : db (hX x s) x d = dA [⟨.cj, x, d⟩] s := by
 funext u; simp only [dA, kq, ho.at, db, hX, qh.app]
theorem KK (s : al) (x : Nat) (d : I) : db (mc x s) x d = dA [⟨.cR, x, d⟩] s := by
 funext u; simp only [dA, kq, ho.at, db, mc, qh.app]
theorem FO (s : al) (x : Nat) (d : I) : db s x d = dA [⟨.no, x, d⟩] s := by
 funext u; simp only [dA, kq, ho.at, db, qh.app]
mutual
theorem yo {x : Nat} : ∀ a : I, x ∉ a.ab → cj x a = a
 | .h y q, h => by
   simp only [I.ab, List.mem_singleton] at h
   simp only [cj]; rw [if_neg (fun e => h e.symm)]
 | .aw y q, h => by
   simp only [I.ab, List.mem_singleton] at h
   simp only [cj]; rw [if_neg (fun e => h e.symm)]
 | .aa y q, h => rfl
 | .fn f cap, h => by simp only [cj]; rw [KL cap (by simpa [I.ab] using h)]
 | .hole, _ => rfl
 | .bool _, _ => rfl
 | .eT, _ => rfl
 | .int _ _, _ => rfl
 | .str _, _ => rfl
 | .da, _ => rfl
 | .bo, _ => rfl
 | .slice _, _ => rfl
 | .au _ _, _ => rfl
 | .ref _, _ => rfl
 | .aU _, _ => rfl
 | .agg _, _ => rfl
 | .tuple _, _ => rfl
 | .ct _, _ => rfl
theorem KL {x : Nat} : ∀ ds : List I, x ∉ I.dV ds → je x ds = ds
 | [], _ => rfl
 | d :: ds, h => by
   simp only [I.dV, List.mem_append, not_or] at h
   simp only [je]; rw [yo d h.1, KL ds h.2]
end
mutual
theorem FP {x : Nat} : ∀ a : I, x ∉ a.ab → cR x a = a
 | .h y q, h => by
   simp only [I.ab, List.mem_singleton] at h
   simp only [cR]; rw [if_neg (fun e => h e.symm)]
 | .aw y q, h => by
   simp only [I.ab, List.mem_singleton] at h
   simp only [cR]; rw [if_neg (fun e => h e.symm)]
 | .aa y q, h => by
   simp only [I.ab, List.mem_singleton] at h
   simp only [cR]; rw [if_neg (fun e => h e.symm)]
 | .fn f cap, h => by simp only [cR]; rw [KM cap (by simpa [I.ab] using h)]
 | .hole, _ => rfl
 | .bool _, _ => rfl
 | .eT, _ => rfl
 | .int _ _, _ => rfl
 | .str _, _ => rfl
 | .da, _ => rfl
 | .bo, _ => rfl
 | .slice _, _ => rfl
 | .au _ _, _ => rfl
 | .ref _, _ => rfl
 | .aU _, _ => rfl
 | .agg _, _ => rfl
 | .tuple _, _ => rfl
 | .ct _, _ => rfl
theorem KM {x : Nat} : ∀ ds : List I, x ∉ I.dV ds → jC x ds = ds
 | [], _ => rfl
 | d :: ds, h => by
   simp only [I.dV, List.mem_append, not_or] at h
   simp only [jC]; rw [FP d h.1, KM ds h.2]
end
theorem yp {k : qh} {x : Nat} {a : I} (h : k = .no ∨ x ∉ a.ab) : k.app x a = a := by
 cases k with
 | no => rfl
 | cj => exact yo a (by simpa using h)
 | cR => exact FP a (by simpa using h)
mutual
theorem KN (x y : Nat) : ∀ a : I, cj x (cj y a) = cj y (cj x a)
 | .h z q => by simp only [cj]; by_cases af : z = x <;> by_cases ag : z = y <;> by_cases aF : q = [] <;> simp [af, ag, aF, cj] <;> (subst_vars; simp_all [cj])
 | .aw z q => by simp only [cj]; by_cases af : z = x <;> by_cases ag : z = y <;> simp [af, ag, cj] <;> (subst_vars; simp_all [cj])
 | .aa z q => rfl
 | .fn f cap => by simp only [cj]; rw [KO x y cap]
 | .hole => rfl
 | .bool _ => rfl
 | .eT => rfl
 | .int _ _ => rfl
 | .str _ => rfl
 | .da => rfl
 | .bo => rfl
 | .slice _ => rfl
 | .au _ _ => rfl
 | .ref _ => rfl
 | .aU _ => rfl
 | .agg _ => rfl
 | .tuple _ => rfl
 | .ct _ => rfl
theorem KO (x y : Nat) : ∀ ds : List I, je x (je y ds) = je y (je x ds)
 | [] => rfl
 | d :: ds => by simp only [je]; rw [KN x y d, KO x y ds]
end
mutual
theorem KP (x y : Nat) : ∀ a : I, cR x (cR y a) = cR y (cR x a)
 | .h z q => by simp only [cR]; by_cases af : z = x <;> by_cases ag : z = y <;> simp [af, ag, cR] <;> (subst_vars; simp_all [cR])
 | .aw z q => by simp only [cR]; by_cases af : z = x <;> by_cases ag : z = y <;> simp [af, ag, cR] <;> (subst_vars; simp_all [cR])
 | .aa z q => by simp only [cR]; by_cases af : z = x <;> by_cases ag : z = y <;> simp [af, ag, cR] <;> (subst_vars; simp_all [cR])
 | .fn f cap => by simp only [cR]; rw [KQ x y cap]
 | .hole => rfl
 | .bool _ => rfl
 | .eT => rfl
 | .int _ _ => rfl
 | .str _ => rfl
 | .da => rfl
 | .bo => rfl
 | .slice _ => rfl
 | .au _ _ => rfl
 | .ref _ => rfl
 | .aU _ => rfl
 | .agg _ => rfl
 | .tuple _ => rfl
 | .ct _ => rfl
theorem KQ (x y : Nat) : ∀ ds : List I, jC x (jC y ds) = jC y (jC x ds)
 | [] => rfl
 | d :: ds => by simp only [jC]; rw [KP x y d, KQ x y ds]
end
mutual
theorem FQ (x y : Nat) : ∀ a : I, cj x (cR y a) = cR y (cj x a)
 | .h z q => by simp only [cR, cj]; by_cases af : z = x <;> by_cases ag : z = y <;> by_cases aF : q = [] <;> simp [af, ag, aF, cR, cj] <;> (subst_vars; simp_all [cR, cj])
 | .aw z q => by simp only [cR, cj]; by_cases af : z = x <;> by_cases ag : z = y <;> simp [af, ag, cR, cj] <;> (subst_vars; simp_all [cR, cj])
 | .aa z q => by simp only [cR, cj]; by_cases ag : z = y <;> simp [ag, cj]
 | .fn f cap => by simp only [cR, cj]; rw [KR x y cap]
 | .hole => rfl
 | .bool _ => rfl
 | .eT => rfl
 | .int _ _ => rfl
 | .str _ => rfl
 | .da => rfl
 | .bo => rfl
 | .slice _ => rfl
 | .au _ _ => rfl
 | .ref _ => rfl
 | .aU _ => rfl
 | .agg _ => rfl
 | .tuple _ => rfl
 | .ct _ => rfl
theorem KR (x y : Nat) : ∀ ds : List I, je x (jC y ds) = jC y (je x ds)
 | [] => rfl
 | d :: ds => by simp only [jC, je]; rw [FQ x y d, KR x y ds]
end
theorem Th (k l : qh) (x y : Nat) (a : I) : k.app x (l.app y a) = l.app y (k.app x a) := by
 cases k <;> cases l <;> simp only [qh.app] <;> first | rfl | exact KN .. | exact KP .. | exact FQ .. | exact (FQ ..).symm
def aH.use (s : al) : aH → List Nat
 | .t n => n :: (s n).ab
 | .c av => av.ab
 | .f _ => []
def aH.oo (s : al) : List aH → List Nat
 | [] => []
 | x :: xs => x.use s ++ aH.oo s xs
def FR (s : al) : Option aH → List Nat
 | none => []
 | some x => x.use s
def use (s : al) : fG → List Nat
 | .cz x => x.use s
 | .fu x => x.use s
 | .pick c a b => c.use s ++ (a.use s ++ b.use s)
 | .g_ _ => []
 | .dj _ x => x.use s
 | .ev _ ps => aH.oo s (ps.map (·.2))
 | .c9 _ _ ps => aH.oo s (ps.map (·.2))
 | .cS _ x => x.use s
 | .gr _ x y => x.use s ++ y.use s
 | .fs x => x.use s
 | .cf _ _ x y => x.use s ++ y.use s
 | .un _ x => x.use s
 | .gv _ _ x => x.use s
 | .ji _ cs => aH.oo s cs
 | .e7 _ l c => l.use s ++ c.use s
 | .fh _ x df an => x.use s ++ (FR s df ++ FR s an)
 | .di _ x _ => x.use s
 | .eX _ x i => x.use s ++ i.use s
 | .idx _ x i => x.use s ++ i.use s
 | .ex x _ => x.use s
 | .mE _ x _ => x.use s
 | .call f args => f.use s ++ aH.oo s args
 | .len _ x => x.use s
 | .app _ _ x y => x.use s ++ y.use s
 | .shr bD => use s bD
 | .nc f args u x => u :: x :: (f.use s ++ aH.oo s args)
 | .nd f args us => us.flatMap (fun u => u :: (s u).ab) ++ (f.use s ++ aH.oo s args)
 | .kc _ x => x.use s
 | .nI x => x.use s
 | .mj x => x.use s
 | .qf => []
 | .iJ _ x i => x.use s ++ i.use s
 | .jF _ x i v => x.use s ++ (i.use s ++ v.use s)
 | .oi _ _ x y => x.use s ++ y.use s
 | .cap _ x => x.use s
 | .qe _ x y => x.use s ++ y.use s
 | .bad => []
def c6 (s : al) : fG → List Nat
 | .fu x => (aJ s x).ab
 | .dj _ x => (aJ s x).ab
 | .ev _ ps => I.dV (ps.map fun p => aJ s p.2)
 | .c9 _ _ ps => I.dV (ps.map fun p => aJ s p.2)
 | .gr _ x y => (aJ s x).ab ++ (aJ s y).ab
 | .mE _ x _ => (aJ s x).ab
 | .mj x => (aJ s x).ab
 | .jF _ x _ _ => (aJ s x).ab
 | .fh _ x _ _ => (aJ s x).ab
 | .app _ _ x y => (aJ s x).ab ++ (aJ s y).ab
 | .shr bD => c6 s bD
 | _ => []
def dG (bR : List Nat) (az s : al) : Prop := ∀ u ∈ bR, az u = s u
theorem dG.left {bR V : List Nat} {az s : al} (h : dG (bR ++ V) az s) : dG bR az s := fun u hu => h u (List.mem_append_left _ hu)
theorem dG.right {bR V : List Nat} {az s : al} (h : dG (bR ++ V) az s) : dG V az s := fun u hu => h u (List.mem_append_right _ hu)
theorem dG.dA {bR : List Nat} {az s : al} (h : dG bR az s) (ms : List ho) : dG bR (dA ms az) (dA ms s) := fun u hu => Tg (h u hu)
theorem dG.sub {bR V : List Nat} {az s : al} (h : dG bR az s) (ab : ∀ u ∈ V, u ∈ bR) : dG V az s := fun u hu => h u (ab u hu)
theorem aH.tB {s : al} {x : aH} : ∀ u ∈ (aJ s x).ab, u ∈ x.use s := by
 intro u hu
 cases x with
 | t n =>
   simp only [aJ, jr] at hu
   split at hu
   ·simp [aH.use, hu]
   ·simp only [I.ab, List.mem_singleton] at hu; simp [aH.use, hu]
 | c av => exact hu
 | f g => simp [aJ, I.ab, I.dV] at hu
theorem aH.fv {s az : al} {x : aH} (h : dG (x.use s) az s) : aJ az x = aJ s x := by
 cases x with
 | t n => simp only [aJ]; rw [h n (by simp [aH.use])]
 | c av => rfl
 | f g => rfl
theorem dG.aJ {s az : al} {x : aH} (h : dG (x.use s) az s) : dG (aJ s x).ab az s := h.sub aH.tB
theorem KS {s az : al} {x : Option aH} (h : dG (FR s x) az s) : x.map (aJ az) = x.map (aJ s) := by
 cases x with
 | none => rfl
 | some x => simp only [Option.map_some]; rw [aH.fv h]
theorem aH.FT {s az : al} : ∀ {xs : List aH}, dG (aH.oo s xs) az s → xs.map (aJ az) = xs.map (aJ s)
 | [], _ => rfl
 | x :: xs, h => by
   simp only [List.map_cons]
   rw [aH.fv (h.left), aH.FT (h.right)]
theorem aH.FU {s az : al} : ∀ {ps : List (Nat × aH)}, dG (aH.oo s (ps.map (·.2))) az s → (ps.map fun p => (p.1, aJ az p.2)) = ps.map fun p => (p.1, aJ s p.2)
 | [], _ => rfl
 | x :: xs, h => by
   simp only [List.map_cons] at h ⊢
   rw [aH.fv (h.left), aH.FU (h.right)]
theorem aH.Bh {s : al} : ∀ {xs : List aH}, ∀ u ∈ I.dV (xs.map (aJ s)), u ∈ aH.oo s xs
 | [], u, h => by simp [I.dV] at h
 | x :: xs, u, h => by
   simp only [List.map_cons, I.dV, List.mem_append] at h
   simp only [aH.oo, List.mem_append]
   exact h.imp (aH.tB u) (aH.Bh u)
section
variable {C : b4} {s az : al} {x y i : I} {T A B : TypeId}
theorem FV (h : dG x.ab az s) : loc az x = loc s x := by
 cases x <;> first
  | rfl
  | (simp only [loc]; rw [h _ (by simp [I.ab])])
theorem FW {z : Nat} {q : List Nat} (h : loc s x = some (z, q)) : z ∈ x.ab := by
 cases x with
 | h y p =>
   simp only [loc] at h
   split at h
   ·simp only [Option.some.injEq, Prod.mk.injEq] at h; simp [I.ab, h.1]
   ·cases h
 | aw y p =>
   simp only [loc] at h
   split at h
   ·simp only [Option.some.injEq, Prod.mk.injEq] at h; simp [I.ab, h.1]
   ·cases h
 | _ => simp [loc] at h
theorem Ti (h : dG x.ab az s) : cS C az T x = cS C s T x := by
 have hl := FV h
 unfold cS
 split
 ·rfl
 ·rw [h _ (by simp [I.ab])]
 ·rw [hl]
  split
  ·rename_i e
   rw [h _ (FW e)]
  ·rfl
theorem Tj {k : Nat} (h : dG x.ab az s) : di C az T x k = di C s T x k := by
 have hl := FV h
 unfold di
 split
 ·split
  ·split
   ·split
    ·rfl
    ·rw [h _ (by simp [I.ab])]
    ·rw [hl]
     split
     ·rename_i e
      rw [h _ (FW e)]
     ·rfl
   ·rfl
  ·rfl
 ·rfl
theorem Tk (h : dG x.ab az s) : eX C az T x i = eX C s T x i := by
 cases x <;> first
  | rfl
  | (simp only [eX]; rw [h _ (by simp [I.ab])])
theorem Tl (h : dG x.ab az s) : mF C az T x = mF C s T x := by
 unfold mF
 cases (C.T T).k <;> cases x <;> first
  | rfl
  | (simp only; rw [h _ (by simp [I.ab])])
theorem Tm (h : dG x.ab az s) : gv C az A B x = gv C s A B x := by
 unfold gv
 cases (C.T B).k <;> cases x <;> first
  | rfl
  | (simp only; rw [h _ (by simp [I.ab])])
theorem Tn (h : dG x.ab az s) : kd az x = kd s x := by
 cases x <;> first
  | rfl
  | (simp only [kd]; rw [h _ (by simp [I.ab])])
theorem To (h : dG x.ab az s) : lS az x = lS s x := by
 cases x <;> first
  | rfl
  | (simp only [lS]; rw [h _ (by simp [I.ab])])
theorem Tp {op : BinOp} (h : dG x.ab az s) : cf C az op T x y = cf C s op T x y := by
 have af := Tn h
 have ag := To h
 unfold cf
 split <;> first | rfl | simp only [af, ag]
theorem Tq (h : dG x.ab az s) : fs az x = fs s x := by
 cases x <;> first
  | rfl
  | (simp only [fs]; rw [h _ (by simp [I.ab])])
theorem Tr {k y : Nat} {q : List Nat} (h : mE C s T x k = some (.h y q)) : x.ab = [y] := by
 unfold mE at h
 split at h <;> try (cases h; done)
 split at h <;> try (cases h; done)
 split at h
 ·split at h <;> try (cases h; done)
  split at h
  ·rename_i ao
   simp only [Option.some.injEq] at h
   rw [h] at ao
   exact absurd ao.2.2.2 (by simp [I.tree])
  ·cases h
 ·split at h <;> try (cases h; done)
  split at h <;> try (cases h; done)
  split at h <;> try (cases h; done)
  rename_i d ai ao
  by_cases aw : d.plain = true
  ·simp only [aw, if_true, Option.some.injEq] at h
   rw [h] at ao
   exact absurd ao.2.2.2 (by simp [I.tree])
  ·simp only [aw, Option.some.injEq] at h
   injection h with af ag
   subst af; rfl
 ·cases h
theorem KT {k : Nat} (h : dG x.ab az s) : mE C az T x k = mE C s T x k := by
 unfold mE
 split <;> try rfl
 split <;> try rfl
 cases x <;> first
  | rfl
  | (simp only []; rw [h _ (by simp [I.ab])])
theorem Ts {k : Nat} (h : dG x.ab az s) : ex az x k = ex s x k := by
 cases x <;> first
  | rfl
  | (simp only [ex]; rw [h _ (by simp [I.ab])])
theorem vF : ∀ (q : List Nat) (a d e : I), I.sub q a = some d → (d.plain = false ∨ q ≠ []) → (q = [] → e.ab = []) → (I.put q e a).ab = [] := by
 intro q a d e h aw he
 cases q with
 | nil => rw [I.put]; exact he rfl
 | cons k q =>
   cases a <;> first
    | (simp [I.sub] at h; done)
    | skip
   all_goals
    unfold I.put
    repeat' split
    all_goals first | rfl | (simp_all; done)
end
def Loc {α : Type} (bR vG : List Nat) (f : al → Option (α × al)) (s : al) (av : α) (s1 : al) : Prop :=
 ∃ ms, s1 = dA ms s ∧ (∀ m ∈ ms, m.x ∈ vG ∧ m.d.ab = []) ∧ ∀ az, dG bR az s → f az = some (av, dA ms az)
theorem Loc.pure {α : Type} {bR vG : List Nat} {f : al → Option (α × al)} {s : al} {av : α} (h : ∀ az, dG bR az s → f az = some (av, az)) : Loc bR vG f s av s :=
 ⟨[], rfl, by simp, fun az ab => h az ab⟩
theorem Loc.mono {α : Type} {bR vG Bi KU : List Nat} {f : al → Option (α × al)} {s s1 : al} {av : α} (h : Loc bR vG f s av s1) (qb : ∀ u ∈ bR, u ∈ Bi) (jE : ∀ u ∈ vG, u ∈ KU) : Loc Bi KU f s av s1 := by
 obtain ⟨ms, af, ag, aF⟩ := h
 exact ⟨ms, af, fun m hm => ⟨jE _ (ag m hm).1, (ag m hm).2⟩, fun az ab => aF az (ab.sub qb)⟩
section
variable {C : b4} {s s1 : al} {x y d : I} {T A B : TypeId}
theorem rb (h : cO s x = some (d, s1)) : Loc x.ab x.ab (fun s => cO s x) s d s1 := by
 cases x with
 | h y q =>
   simp only [cO] at h
   split at h
   ·rename_i e he
    split at h
    ·cases h
    ·rename_i aw
     simp only [Option.some.injEq, Prod.mk.injEq] at h
     obtain ⟨rfl, rfl⟩ := h
     have aw : e.plain = false := by simpa using aw
     refine ⟨[⟨.cj, y, I.put q e.c7 (s y)⟩], tA _ _ _, ?_, ?_⟩
     ·intro m hm
      simp only [List.mem_singleton] at hm; subst hm
      refine ⟨by simp [I.ab], vF q _ _ _ he (.inl aw) fun cG => ?_⟩
      subst cG
      cases e <;> first | (simp [I.plain] at aw; done) | rfl
     ·intro az ab
      have aN : az y = s y := ab y (by simp [I.ab])
      simp only [cO, aN, he, aw]
      rw [← tA]; rfl
   ·cases h
 | aw y q => simp [cO] at h
 | aa y q => simp [cO] at h
 | fn f c => simp [cO] at h
 | hole => simp [cO] at h
 | _ =>
   simp only [cO, Option.some.injEq, Prod.mk.injEq] at h
   obtain ⟨rfl, rfl⟩ := h
   exact .pure fun az _ => rfl
mutual
theorem KV (x : Nat) : ∀ a : I, ∀ u ∈ (cj x a).ab, u ∈ a.ab
 | .h y q, u, h => by
   simp only [cj] at h
   split at h
   ·split at h
    ·exact h
    ·simp [I.ab] at h
   ·exact h
 | .aw y q, u, h => by
   simp only [cj] at h
   split at h
   ·simp [I.ab] at h
   ·exact h
 | .aa y q, u, h => h
 | .fn f cap, u, h => by simp only [cj, I.ab] at h ⊢; exact KW x cap u h
 | .hole, u, h => h
 | .bool _, u, h => h
 | .eT, u, h => h
 | .int _ _, u, h => h
 | .str _, u, h => h
 | .da, u, h => h
 | .bo, u, h => h
 | .slice _, u, h => h
 | .au _ _, u, h => h
 | .ref _, u, h => h
 | .aU _, u, h => h
 | .agg _, u, h => h
 | .tuple _, u, h => h
theorem KW (x : Nat) : ∀ ds : List I, ∀ u ∈ I.dV (je x ds), u ∈ I.dV ds
 | [], u, h => h
 | d :: ds, u, h => by
   simp only [je, I.dV, List.mem_append] at h ⊢
   exact h.imp (KV x d u) (KW x ds u)
end
theorem FX (o : Option Nat) (a : I) : ∀ u ∈ (k4 o a).ab, u ∈ a.ab := by
 intro u h
 cases o with
 | none => exact h
 | some x => exact KV x a u h
theorem KX : ∀ (os : List (Option Nat)) (a : I), ∀ u ∈ (lr os a).ab, u ∈ a.ab := by
 intro os
 induction os with
 | nil => intro a u h; exact h
 | cons o os ih => intro a u h; exact FX o a u (ih (k4 o a) u h)
theorem KY {place : Nat → Option (Nat × Nat)} : ∀ {ps : List (Nat × I)} {s s1 : al} {eL ds : List I} {os : List (Option Nat)}, dF place s eL os ps = some (ds, s1) →
  Loc (I.dV (ps.map (·.2))) (I.dV (ps.map (·.2))) (fun s => dF place s eL os ps) s ds s1 := by
 intro ps
 induction ps with
 | nil =>
   intro s s1 eL ds os h
   simp only [dF, Option.some.injEq, Prod.mk.injEq] at h
   obtain ⟨rfl, rfl⟩ := h
   exact .pure fun az _ => rfl
 | cons p ps ih =>
   intro s s1 eL ds os h
   obtain ⟨k, a⟩ := p
   simp only [dF] at h
   split at h
   ·rename_i d s2 off n z a1 eK bS
    split at h
    ·cases h
    ·rename_i bx ng
     split at h
     ·rename_i ao
      obtain ⟨pv, rfl, ag, aF⟩ := rb a1
      obtain ⟨r_, rfl, bI, cK⟩ := ih h
      refine ⟨pv ++ r_, (ml _ _ _).symm, ?_, ?_⟩
      ·intro m hm
       simp only [List.map_cons, I.dV, List.mem_append] at hm ⊢
       rcases hm with hm | hm
       ·exact ⟨.inl (KX _ _ _ (ag m hm).1), (ag m hm).2⟩
       ·exact ⟨.inr (bI m hm).1, (bI m hm).2⟩
      ·intro az ab
       simp only [List.map_cons, I.dV] at ab
       have aN := aF az (ab.left.sub (KX _ _))
       have aZ := cK (dA pv az) (ab.right.dA pv)
       simp only at aN aZ
       simp only [dF, aN, eK, bS, ml]
       rw [if_pos ao]; exact aZ
     ·cases h
   ·cases h
theorem Tt {ps : List (Nat × I)} {av : I} (h : ev C s T ps = some (av, s1)) : Loc (I.dV (ps.map (·.2))) (I.dV (ps.map (·.2))) (fun s => ev C s T ps) s av s1 := by
 unfold ev at h
 split at h
 ·rename_i ax eL ar bS
  split at h
  ·rename_i ao
   split at h
   ·rename_i ds s2 bz
    simp only [Option.some.injEq, Prod.mk.injEq] at h
    obtain ⟨rfl, rfl⟩ := h
    obtain ⟨ms, af, ag, aF⟩ := KY bz
    refine ⟨ms, af, ag, fun az ab => ?_⟩
    have := aF az ab
    simp only at this
    simp only [ev, ar, bS, if_pos ao, this]
   ·cases h
  ·cases h
 ·cases h
theorem Tu {n : Nat} {ps : List (Nat × I)} {av : I} (h : c9 C s T n ps = some (av, s1)) : Loc (I.dV (ps.map (·.2))) (I.dV (ps.map (·.2))) (fun s => c9 C s T n ps) s av s1 := by
 unfold c9 at h
 split at h
 ·rename_i e ar
  split at h
  ·rename_i ao
   split at h
   ·rename_i ds s2 bz
    simp only [Option.some.injEq, Prod.mk.injEq] at h
    obtain ⟨rfl, rfl⟩ := h
    obtain ⟨ms, af, ag, aF⟩ := KY bz
    refine ⟨ms, af, ag, fun az ab => ?_⟩
    have := aF az ab
    simp only at this
    simp only [c9, ar, if_pos ao, this]
   ·cases h
  ·cases h
 ·cases h
theorem Tv {av : I} (h : dj s x = some (av, s1)) : Loc x.ab x.ab (fun s => dj s x) s av s1 := by
 unfold dj at h
 split at h
 ·cases h
 ·rename_i d s2 ng a1
  simp only [Option.some.injEq, Prod.mk.injEq] at h
  obtain ⟨rfl, rfl⟩ := h
  obtain ⟨ms, af, ag, aF⟩ := rb a1
  refine ⟨ms, af, ag, fun az ab => ?_⟩
  have := aF az ab
  simp only at this
  simp only [dj, this]
 ·cases h
theorem Tw {av : I} (h : kc s x = some (av, s1)) : Loc x.ab [] (fun s => kc s x) s av s1 := by
 unfold kc at h
 split at h
 ·rename_i y q
  split at h
  ·rename_i ds nD
   split at h
   ·cases h
   ·rename_i x4
    simp only [Option.some.injEq, Prod.mk.injEq] at h
    obtain ⟨rfl, rfl⟩ := h
    refine .pure fun az ab => ?_
    have e : az y = s y := ab y (by simp [I.ab])
    simp only [kc, e, nD, if_neg x4]
  ·cases h
 ·split at h
  ·rename_i ao
   simp only [Option.some.injEq, Prod.mk.injEq] at h
   obtain ⟨rfl, rfl⟩ := h
   exact .pure fun az ab => by simp only [kc, ao, if_true]
  ·cases h
 ·cases h
theorem Tx {s2 : al} (h : gr C s T x y = some s2) : Loc (x.ab ++ y.ab) (x.ab ++ y.ab) (fun s => (gr C s T x y).map fun s1 => (I.hole, s1)) s .hole s2 := by
 unfold gr at h
 split at h
 ·rename_i d s1 z q a1 hl
  obtain ⟨ms, af, ag, aF⟩ := rb a1
  have bS := FW hl
  have cG : q ≠ [] := by
   cases x with
   | h y p =>
     simp only [loc] at hl
     split at hl
     ·simp only [Option.some.injEq, Prod.mk.injEq] at hl; simp [← hl.2]
     ·cases hl
   | aw y p =>
     simp only [loc] at hl
     split at hl
     ·rename_i pg
      simp only [Option.some.injEq, Prod.mk.injEq] at hl
      obtain ⟨rfl, rfl⟩ := hl
      intro e; subst e; simp [I.fL] at pg
     ·cases hl
   | _ => simp [loc] at hl
  split at h
  ·cases h
  ·rename_i bx ng
   split at h
   ·rename_i d0 lo
    split at h
    ·rename_i ao
     simp only [Option.some.injEq] at h; subst h
     refine ⟨ms ++ [⟨.cj, z, I.put q d (s z)⟩], ?_, ?_, ?_⟩
     ·rw [ml, ← af, tA]
     ·intro m hm
      simp only [List.mem_append, List.mem_singleton] at hm ⊢
      rcases hm with hm | rfl
      ·exact ⟨.inr (ag m hm).1, (ag m hm).2⟩
      ·exact ⟨.inl bS, vF q _ _ _ lo (.inr cG) fun e => (cG e).elim⟩
     ·intro az ab
      have aN := aF az ab.right
      simp only at aN
      simp only [gr, aN, FV ab.left, hl, ab.left z bS, lo]
      cases d <;> first | (simp only [if_pos ao, Option.map_some, ml, tA]; done) | exact (ng _ rfl).elim
    ·cases h
   ·cases h
 ·cases h
theorem Ty {df an : Option I} {av : I} (h : fh C s T x df an = some (av, s1)) : Loc x.ab x.ab (fun s => fh C s T x df an) s av s1 := by
 cases x with
 | h y q =>
   unfold fh at h
   split at h <;> first | (cases h; done) | skip
   all_goals (rename_i aq; try cases aq)
   rename_i e ar
   split at h
   ·rename_i sz xs e6
    split at h
    ·rename_i b oc od
     split at h
     ·rename_i ao
      split at h
      ·rename_i d s2 a1
       simp only [Option.some.injEq, Prod.mk.injEq] at h
       obtain ⟨rfl, rfl⟩ := h
       obtain ⟨ms, af, ag, aF⟩ := rb a1
       refine ⟨ms, af, ag, fun az ab => ?_⟩
       have := aF az ab
       simp only at this
       have aN : az y = s y := ab y (by simp [I.ab])
       simp only [fh, ar, aN, e6, oc, od, if_pos ao, this]
      ·cases h
     ·cases h
    ·cases h
   ·cases h
 | _ =>
   have re : s1 = s := by
    unfold fh at h
    repeat' split at h
    all_goals first | (cases h; done) | (simp only [Option.some.injEq, Prod.mk.injEq] at h; exact h.2.symm) | simp_all
   subst re
   refine .pure fun az _ => ?_
   unfold fh at h ⊢
   repeat' split at h
   all_goals first
    | (cases h; done)
    | (simp only [Option.some.injEq, Prod.mk.injEq] at h
       obtain ⟨rfl, _⟩ := h
       simp_all)
def qi (C : b4) (e : TypeId) (s : al) : I → Option (I × al)
 | .bo => some (I.au (C.T e).sz [], s)
 | .h a q => cO s (.h a q)
 | _ => none
def lT (s1 : al) : I → Option (List I × al)
 | .bo => some ([], s1)
 | .slice ck => some (ck, s1)
 | .str l => some (l.map gu, s1)
 | .h a q => match cO s1 (.h a q) with
   | some (.au _ ck, s2) => some (ck, s2)
   | _ => none
 | _ => none
theorem FY (C : b4) (s : al) (T bR : TypeId) (x y : I) : mH C s T bR x y = (match (C.T T).k with
 | .slice e => if (C.T e).ok = true ∧ (C.T e).zero.wd = (C.T e).sz ∧ (flat (C.T e).zero).isSome = true ∧ A9 C e bR = true then
   match qi C e s x with
   | some (.au sz xs, s1) => if sz = (C.T e).sz then
     match lT s1 (k4 x.owner y) with
     | some (ck, s2) => if (∀ d ∈ ck, d.wd = (C.T e).sz) ∧ (xs.length + ck.length) * (C.T e).bytes ≤ 140737488355328 ∧ xs.length + ck.length ≤ 9223372036854775807 then some (.au sz (xs ++ ck), s2) else none
     | none => none
     else none
   | _ => none
   else none
 | _ => none) := by
 unfold mH
 generalize k4 x.owner y = kH
 cases (C.T T).k <;> first
  | rfl
  | (cases x <;> cases kH <;> rfl)
theorem Tz {e : TypeId} {d : I} (af : qi C e s x = some (d, s1)) : Loc x.ab x.ab (fun s => qi C e s x) s d s1 := by
 cases x with
 | bo =>
   simp only [qi, Option.some.injEq, Prod.mk.injEq] at af
   obtain ⟨af, rfl⟩ := af
   exact .pure fun az _ => by simp only [qi, af]
 | h a q => exact rb af
 | _ => simp [qi] at af
theorem TA {ck : List I} (ag : lT s y = some (ck, s1)) : Loc y.ab y.ab (fun s => lT s y) s ck s1 := by
 cases y with
 | bo =>
   simp only [lT, Option.some.injEq, Prod.mk.injEq] at ag
   obtain ⟨rfl, rfl⟩ := ag
   exact .pure fun az _ => rfl
 | slice ck =>
   simp only [lT, Option.some.injEq, Prod.mk.injEq] at ag
   obtain ⟨rfl, rfl⟩ := ag
   exact .pure fun az _ => rfl
 | str l =>
   simp only [lT, Option.some.injEq, Prod.mk.injEq] at ag
   obtain ⟨rfl, rfl⟩ := ag
   exact .pure fun az _ => rfl
 | h a q =>
   simp only [lT] at ag
   split at ag
   ·rename_i SL ay0 ke a1
    simp only [Option.some.injEq, Prod.mk.injEq] at ag
    obtain ⟨rfl, rfl⟩ := ag
    obtain ⟨ms, g1, g2, g3⟩ := rb a1
    refine ⟨ms, g1, g2, fun az ab => ?_⟩
    have := g3 az ab
    simp only at this
    simp only [lT, this]
   ·cases ag
 | _ => simp [lT] at ag
theorem TB {av : I} (h : mH C s T A x y = some (av, s1)) : Loc (x.ab ++ y.ab) (x.ab ++ y.ab) (fun s => mH C s T A x y) s av s1 := by
 rw [FY] at h
 split at h
 ·rename_i e ar
  split at h
  ·rename_i ao
   split at h
   ·rename_i sz xs s2 af
    split at h
    ·rename_i d_
     split at h
     ·rename_i ck fi ag
      split at h
      ·rename_i kb
       simp only [Option.some.injEq, Prod.mk.injEq] at h
       obtain ⟨rfl, rfl⟩ := h
       obtain ⟨pv, rfl, a2, a3⟩ := Tz af
       obtain ⟨r_, rfl, gT, hn⟩ := (TA ag).mono (FX _ _) (FX _ _)
       refine ⟨pv ++ r_, (ml _ _ _).symm, ?_, ?_⟩
       ·intro m hm
        simp only [List.mem_append] at hm ⊢
        rcases hm with hm | hm
        ·exact ⟨.inl (a2 m hm).1, (a2 m hm).2⟩
        ·exact ⟨.inr (gT m hm).1, (gT m hm).2⟩
       ·intro az ab
        have aN := a3 az ab.left
        have aZ := hn (dA pv az) (ab.right.dA pv)
        simp only at aN aZ
        simp only [FY, ar, if_pos ao, aN, if_pos d_, aZ, if_pos kb, ml]
      ·cases h
     ·cases h
    ·cases h
   ·cases h
  ·cases h
 ·cases h
theorem TC {az : al} {i : I} (h : dG x.ab az s) : iJ C az T x i = iJ C s T x i := by
 cases x with
 | h y q => cases i <;> simp only [iJ, h y (by simp [I.ab])]
 | _ => rfl
theorem TD {i v : I} {s2 : al} (h : jF C s T x i v = some s2) : Loc x.ab x.ab (fun s => (jF C s T x i v).map fun s1 => (I.hole, s1)) s .hole s2 := by
 unfold jF at h
 split at h
 ·rename_i y q k b
  split at h
  ·rename_i m ai
   split at h
   ·rename_i jE
    simp only [Option.some.injEq] at h; subst h
    refine ⟨[⟨.cj, y, I.put q (.ct (.mp (kD k b m))) (s y)⟩], tA _ _ _, ?_, fun az ab => ?_⟩
    ·intro n bc
     simp only [List.mem_singleton] at bc; subst bc
     exact ⟨by simp [I.ab], vF q _ _ _ ai (.inl rfl) fun _ => rfl⟩
    ·have aN : az y = s y := ab y (by simp [I.ab])
     simp only [jF, aN, ai, jE, if_true, Option.map_some]
     rw [← tA]
   ·cases h
  ·cases h
 ·cases h
theorem KZ {bD : fG} {av : I} (h : bB C s bD = some (av, s1)) : Loc (use s bD) (c6 s bD) (fun s => bB C s bD) s av s1 := by
 cases bD with
 | shr bD => simp [bB] at h
 | nc f args u x => simp [bB] at h
 | nd f args L => simp [bB] at h
 | mj x =>
   simp only [bB] at h
   unfold qg at h
   split at h
   ·rename_i y q aq
    obtain ⟨ms, af, ag, aF⟩ := rb h
    refine ⟨ms, af, by simpa only [c6, aq] using ag, fun az ab => ?_⟩
    have e := aH.fv (x := x) ab
    have aZ := aF az (by rw [← aq]; exact dG.aJ ab)
    simp only [bB, e, aq, qg]
    exact aZ
   ·rename_i K0
    simp only [Option.some.injEq, Prod.mk.injEq] at h
    obtain ⟨rfl, rfl⟩ := h
    refine .pure fun az ab => ?_
    have e := aH.fv (x := x) ab
    simp only [bB, e, qg]
 | nI x =>
   simp only [bB, Option.some.injEq, Prod.mk.injEq] at h
   obtain ⟨rfl, rfl⟩ := h
   exact .pure fun az ab => by simp only [bB, aH.fv (x := x) ab]
 | kc T x =>
   obtain ⟨ms, af, ag, aF⟩ := Tw h
   refine ⟨ms, af, ag, fun az ab => ?_⟩
   simp only [bB, aH.fv (x := x) ab]
   exact aF az (dG.aJ ab)
 | oi T bR x y =>
   simp only [bB, Option.map_eq_some_iff, Prod.mk.injEq] at h
   obtain ⟨d, ai, rfl, rfl⟩ := h
   exact .pure fun az ab => by
    simp only [use] at ab
    simp only [bB, aH.fv (x := x) ab.left, aH.fv (x := y) ab.right, ai, Option.map_some]
 | bad => simp [bB] at h
 | qe hh x y =>
   simp only [bB, Option.map_eq_some_iff, Prod.mk.injEq] at h
   obtain ⟨d, ai, rfl, rfl⟩ := h
   exact .pure fun az ab => by
    simp only [use] at ab
    simp only [bB, aH.fv (x := x) ab.left, aH.fv (x := y) ab.right, ai, Option.map_some]
 | cap T x =>
   simp only [bB] at h
   split at h
   ·rename_i e ar aq
    simp only [Option.some.injEq, Prod.mk.injEq] at h
    obtain ⟨rfl, rfl⟩ := h
    exact .pure fun az ab => by simp only [bB, aH.fv (x := x) ab, ar, aq]
   ·cases h
 | cz x =>
   simp only [bB, Option.some.injEq, Prod.mk.injEq] at h
   obtain ⟨rfl, rfl⟩ := h
   exact .pure fun az ab => by simp only [bB, aH.fv (x := x) ab]
 | fu x =>
   simp only [bB] at h
   split at h
   ·rename_i y q aq
    obtain ⟨ms, af, ag, aF⟩ := rb h
    refine ⟨ms, af, by simpa only [c6, aq] using ag, fun az ab => ?_⟩
    have e := aH.fv (x := x) ab
    have aZ := aF az (by rw [← aq]; exact dG.aJ ab)
    simp only [bB, e, aq]
    exact aZ
   ·rename_i K0
    simp only [Option.some.injEq, Prod.mk.injEq] at h
    obtain ⟨rfl, rfl⟩ := h
    refine .pure fun az ab => ?_
    have e := aH.fv (x := x) ab
    simp only [bB, e]
 | pick c a b =>
   simp only [bB] at h
   split at h
   ·rename_i fX aa
    simp only [Option.some.injEq, Prod.mk.injEq] at h
    obtain ⟨rfl, rfl⟩ := h
    refine .pure fun az ab => ?_
    simp only [use] at ab
    simp only [bB, aH.fv (x := c) ab.left, aH.fv (x := a) ab.right.left, aH.fv (x := b) ab.right.right, aa]
   ·cases h
 | g_ T =>
   simp only [bB, Option.map_eq_some_iff, Prod.mk.injEq] at h
   obtain ⟨d, ai, rfl, rfl⟩ := h
   exact .pure fun az ab => by simp only [bB, ai, Option.map_some]
 | dj T x =>
   obtain ⟨ms, af, ag, aF⟩ := Tv h
   refine ⟨ms, af, ag, fun az ab => ?_⟩
   simp only [bB, aH.fv (x := x) ab]
   exact aF az (dG.aJ ab)
 | ev T ps =>
   obtain ⟨ms, af, ag, aF⟩ := Tt h
   simp only [List.map_map, Function.comp_def] at ag aF
   refine ⟨ms, af, ag, fun az ab => ?_⟩
   simp only [bB, aH.FU (ps := ps) ab]
   refine aF az (ab.sub fun u hu => ?_)
   simp only [use]
   exact aH.Bh u (by simpa [List.map_map, Function.comp_def] using hu)
 | c9 T n ps =>
   obtain ⟨ms, af, ag, aF⟩ := Tu h
   simp only [List.map_map, Function.comp_def] at ag aF
   refine ⟨ms, af, ag, fun az ab => ?_⟩
   simp only [bB, aH.FU (ps := ps) ab]
   refine aF az (ab.sub fun u hu => ?_)
   simp only [use]
   exact aH.Bh u (by simpa [List.map_map, Function.comp_def] using hu)
 | cS T x =>
   simp only [bB, Option.map_eq_some_iff, Prod.mk.injEq] at h
   obtain ⟨d, ai, rfl, rfl⟩ := h
   exact .pure fun az ab => by simp only [bB, aH.fv (x := x) ab, Ti (dG.aJ ab), ai, Option.map_some]
 | gr T x y =>
   simp only [bB, Option.map_eq_some_iff, Prod.mk.injEq] at h
   obtain ⟨s2, ai, rfl, rfl⟩ := h
   obtain ⟨ms, af, ag, aF⟩ := Tx ai
   refine ⟨ms, af, ag, fun az ab => ?_⟩
   simp only [use] at ab
   simp only [bB, aH.fv (x := x) ab.left, aH.fv (x := y) ab.right]
   exact aF az (ab.sub fun u hu => by simp only [List.mem_append] at hu ⊢; exact hu.imp (aH.tB u) (aH.tB u))
 | fs x =>
   simp only [bB, Option.map_eq_some_iff, Prod.mk.injEq] at h
   obtain ⟨d, ai, rfl, rfl⟩ := h
   exact .pure fun az ab => by simp only [bB, aH.fv (x := x) ab, Tq (dG.aJ ab), ai, Option.map_some]
 | cf op T x y =>
   simp only [bB, Option.map_eq_some_iff, Prod.mk.injEq] at h
   obtain ⟨d, ai, rfl, rfl⟩ := h
   refine .pure fun az ab => ?_
   simp only [use] at ab
   simp only [bB, aH.fv (x := x) ab.left, aH.fv (x := y) ab.right, Tp (dG.aJ ab.left), ai, Option.map_some]
 | un op x =>
   simp only [bB, Option.map_eq_some_iff, Prod.mk.injEq] at h
   obtain ⟨d, ai, rfl, rfl⟩ := h
   exact .pure fun az ab => by simp only [bB, aH.fv (x := x) ab, ai, Option.map_some]
 | gv A B x =>
   simp only [bB, Option.map_eq_some_iff, Prod.mk.injEq] at h
   obtain ⟨d, ai, rfl, rfl⟩ := h
   exact .pure fun az ab => by simp only [bB, aH.fv (x := x) ab, Tm (dG.aJ ab), ai, Option.map_some]
 | ji f cs =>
   simp only [bB, Option.some.injEq, Prod.mk.injEq] at h
   obtain ⟨rfl, rfl⟩ := h
   exact .pure fun az ab => by simp only [bB, aH.FT (xs := cs) ab]
 | e7 T l c =>
   simp only [bB, Option.map_eq_some_iff, Prod.mk.injEq] at h
   obtain ⟨d, ai, rfl, rfl⟩ := h
   refine .pure fun az ab => ?_
   simp only [use] at ab
   simp only [bB, aH.fv (x := l) ab.left, aH.fv (x := c) ab.right, ai, Option.map_some]
 | fh T x df an =>
   simp only [bB] at h
   obtain ⟨ms, af, ag, aF⟩ := Ty h
   refine ⟨ms, af, ag, fun az ab => ?_⟩
   simp only [use] at ab
   simp only [bB, aH.fv (x := x) ab.left, KS ab.right.left, KS ab.right.right]
   exact aF az (dG.aJ ab.left)
 | di T x k =>
   simp only [bB, Option.map_eq_some_iff, Prod.mk.injEq] at h
   obtain ⟨d, ai, rfl, rfl⟩ := h
   exact .pure fun az ab => by simp only [bB, aH.fv (x := x) ab, Tj (dG.aJ ab), ai, Option.map_some]
 | eX T x i =>
   simp only [bB, Option.map_eq_some_iff, Prod.mk.injEq] at h
   obtain ⟨d, ai, rfl, rfl⟩ := h
   refine .pure fun az ab => ?_
   simp only [use] at ab
   simp only [bB, aH.fv (x := x) ab.left, aH.fv (x := i) ab.right, Tk (dG.aJ ab.left), ai, Option.map_some]
 | idx T x i =>
   simp only [bB, Option.map_eq_some_iff, Prod.mk.injEq] at h
   obtain ⟨d, ai, rfl, rfl⟩ := h
   refine .pure fun az ab => ?_
   simp only [use] at ab
   simp only [bB, aH.fv (x := x) ab.left, aH.fv (x := i) ab.right, ai, Option.map_some]
 | ex x k =>
   simp only [bB, Option.map_eq_some_iff, Prod.mk.injEq] at h
   obtain ⟨d, ai, rfl, rfl⟩ := h
   exact .pure fun az ab => by simp only [bB, aH.fv (x := x) ab, Ts (dG.aJ ab), ai, Option.map_some]
 | qf =>
   simp only [bB, Option.some.injEq, Prod.mk.injEq] at h
   obtain ⟨rfl, rfl⟩ := h
   exact .pure fun az ab => rfl
 | iJ T x i =>
   simp only [bB, Option.map_eq_some_iff, Prod.mk.injEq] at h
   obtain ⟨d, ai, rfl, rfl⟩ := h
   refine .pure fun az ab => ?_
   simp only [use] at ab
   simp only [bB, aH.fv (x := x) ab.left, aH.fv (x := i) ab.right, TC (dG.aJ ab.left), ai, Option.map_some]
 | jF T x i v =>
   simp only [bB, Option.map_eq_some_iff, Prod.mk.injEq] at h
   obtain ⟨s2, ai, rfl, rfl⟩ := h
   obtain ⟨ms, af, ag, aF⟩ := TD ai
   refine ⟨ms, af, ag, fun az ab => ?_⟩
   simp only [use] at ab
   simp only [bB, aH.fv (x := x) ab.left, aH.fv (x := i) ab.right.left, aH.fv (x := v) ab.right.right]
   exact aF az (dG.aJ ab.left)
 | mE T x k =>
   simp only [bB, Option.bind_eq_some_iff] at h
   obtain ⟨d, ai, h⟩ := h
   unfold qg at h
   split at h
   ·rename_i y q
    have aq := Tr ai
    obtain ⟨ms, af, ag, aF⟩ := rb h
    refine ⟨ms, af, by simpa only [c6, aq, I.ab] using ag, fun az ab => ?_⟩
    have aZ := aF az (by rw [show (I.h y q).ab = (aJ s x).ab from aq.symm]; exact dG.aJ ab)
    simp only [bB, aH.fv (x := x) ab, KT (dG.aJ ab), ai, Option.bind_some, qg]
    exact aZ
   ·rename_i K0
    simp only [Option.some.injEq, Prod.mk.injEq] at h
    obtain ⟨rfl, rfl⟩ := h
    refine .pure fun az ab => ?_
    simp only [bB, aH.fv (x := x) ab, KT (dG.aJ ab), ai, Option.bind_some, qg]
 | call f args => simp [bB] at h
 | len T x =>
   simp only [bB, Option.map_eq_some_iff, Prod.mk.injEq] at h
   obtain ⟨d, ai, rfl, rfl⟩ := h
   exact .pure fun az ab => by simp only [bB, aH.fv (x := x) ab, Tl (dG.aJ ab), ai, Option.map_some]
 | app T bR x y =>
   obtain ⟨ms, af, ag, aF⟩ := TB h
   refine ⟨ms, af, ag, fun az ab => ?_⟩
   simp only [use] at ab
   simp only [bB, aH.fv (x := x) ab.left, aH.fv (x := y) ab.right]
   exact aF az (ab.sub fun u hu => by simp only [List.mem_append] at hu ⊢; exact hu.imp (aH.tB u) (aH.tB u))
end
def I.one : I → Bool
 | .agg _ => false
 | .tuple _ => false
 | _ => true
mutual
def view (s : al) : I → Option I
 | .h x q => match I.sub q (s x) with
   | some d => (match d with | .tuple _ => none | .ct _ => none | d => if d.plain then none else some d.share)
   | none => none
 | .aw x q => if I.fL q (s x) then (match I.sub q (s x) with
   | some d => (match d with | .tuple _ => none | d => some (.ref d.share))
   | none => none) else none
 | .aa _ _ => none
 | .fn f cap => (views s cap).map (.fn f)
 | .hole => none
 | d => some d
def views (s : al) : List I → Option (List I)
 | [] => some []
 | d :: ds => match view s d, views s ds with
   | some a, some b => some (a :: b)
   | _, _ => none
end
mutual
theorem FZ : ∀ d : I, d.share.plain = true
 | .hole => rfl
 | .bool _ => rfl
 | .eT => rfl
 | .int _ _ => rfl
 | .str _ => rfl
 | .da => rfl
 | .bo => rfl
 | .slice _ => rfl
 | .au _ _ => rfl
 | .ref _ => rfl
 | .aU _ => rfl
 | .agg ax => by simp only [I.share, I.plain]; exact F1 ax
 | .tuple ax => by simp only [I.share, I.plain]; exact F1 ax
 | .fn _ _ => rfl
 | .h _ _ => rfl
 | .aw _ _ => rfl
 | .aa _ _ => rfl
 | .ct _ => rfl
theorem F1 : ∀ ds : List I, I.e1 (I.shares ds) = true
 | [] => rfl
 | d :: ds => by simp only [I.shares, I.e1]; rw [FZ d, F1 ds]; rfl
end
theorem TE {s : al} {a d : I} (h : a.plain = true) (he : view s a = some d) : d.plain = true := by
 cases a with
 | h x q =>
   simp only [view] at he
   split at he
   ·rename_i e e6
    cases e <;> simp only at he <;> first
     | (cases he; done)
     | (split at he
        ·cases he
        ·simp only [Option.some.injEq] at he
         subst he; exact FZ _)
   ·cases he
 | aw x q =>
   simp only [view] at he
   split at he
   ·split at he
    ·rename_i e e6
     cases e <;> simp only at he <;> first
      | (cases he; done)
      | (simp only [Option.some.injEq] at he; subst he; rfl)
    ·cases he
   ·cases he
 | fn f cap =>
   simp only [view, Option.map_eq_some_iff] at he
   obtain ⟨ds, _, rfl⟩ := he
   rfl
 | hole => simp [view] at he
 | aa y q => simp [view] at he
 | _ => simp only [view, Option.some.injEq] at he; subst he; exact h
theorem F2 {d : I} {v : Value} (af : ∀ vs, d ≠ .tuple vs) (h : dT d v) : dT d.share v := by
 cases d <;> first | exact h | exact (af _ rfl).elim
theorem TF (w : World) : ∀ (q : List Nat) (av d bx : I) (cs cM : List Value) (a cN : Option (Nat × Nat)), I.sub q av = some d → bx.wd = d.wd → dn w q av cs a = some (d, cM, cN) →
  dn w q (I.put q bx av) cs a = some (bx, cM, cN) := by
 intro q
 induction q with
 | nil =>
   intro av d bx cs cM a cN ai hw h
   simp only [dn, Option.some.injEq, Prod.mk.injEq] at h
   obtain ⟨rfl, rfl, rfl⟩ := h
   simp only [I.put, dn]
 | cons k q ih =>
   intro av d bx cs cM a cN ai hw h
   cases av with
   | agg ax =>
     simp only [I.sub] at ai
     split at ai
     ·rename_i x aq
      have ar : k < ax.length := (List.getElem?_eq_some_iff.1 aq).1
      simp only [dn, aq] at h
      simp only [I.put, aq, dn]
      rw [List.getElem?_set_self ar]
      simp only [List.take_set_of_le (Nat.le_refl k), I.vl q x d bx ai hw]
      exact ih _ _ _ _ _ _ _ ai hw h
     ·cases ai
   | tuple ax =>
     simp only [I.sub] at ai
     split at ai
     ·rename_i x aq
      have ar : k < ax.length := (List.getElem?_eq_some_iff.1 aq).1
      simp only [dn, aq] at h
      simp only [I.put, aq, dn]
      rw [List.getElem?_set_self ar]
      simp only [List.take_set_of_le (Nat.le_refl k), I.vl q x d bx ai hw]
      exact ih _ _ _ _ _ _ _ ai hw h
     ·cases ai
   | au sz ax =>
     simp only [I.sub] at ai
     split at ai
     ·rename_i x aq
      have ar : k < ax.length := (List.getElem?_eq_some_iff.1 aq).1
      have lq : (ax.set k (I.put q bx x))[k]? = some (I.put q bx x) := List.getElem?_set_self ar
      simp only [I.put, aq]
      rw [dn.eq_def] at h ⊢
      simp only [aq] at h
      simp only
      rw [lq]
      split at h
      ·rename_i aN
       simp only [Option.some.injEq] at aN; subst aN
       exact ih _ _ _ _ _ _ _ ai hw h
      ·cases h
     ·cases ai
   | aU x =>
     cases k with
     | zero =>
       simp only [I.sub] at ai
       rw [dn.eq_def] at h ⊢
       simp only at h
       simp only [I.put]
       split at h
       ·rw [I.vl q x d bx ai hw]
        exact ih _ _ _ _ _ _ _ ai hw h
       ·cases h
     | succ k => simp [I.sub] at ai
   | _ => simp [I.sub] at ai
section
variable {w0 w aL : World} {F0 X F Fc : Nat → Prop} {S : Nat → Nat → Prop} {s az : al} {aB kF : Nat → Value}
theorem TG (h : bM w0 F0 X F S s aB w) (bG : ∀ b, F b → Fc b) : ∀ n,
  (∀ (a : I) (v : Value) (d : I), SizeOf.sizeOf a ≤ n → (∀ t ∈ a.ab, ∀ b, S t b → Fc b) → view s a = some d → aI w F s aB a v (fun _ => False) → aI w Fc az kF d v (fun _ => False)) ∧
  (∀ (as : List I) (vs : List Value) (ds : List I), SizeOf.sizeOf as ≤ n → (∀ t ∈ I.dV as, ∀ b, S t b → Fc b) → views s as = some ds → ef w F s aB as vs → ef w Fc az kF ds vs) := by
 intro n
 induction n with
 | zero => exact ⟨fun a _ _ bS => by cases a <;> simp at bS <;> omega, fun as _ _ bS => by cases as <;> simp at bS <;> omega⟩
 | succ n ih =>
   refine ⟨fun a v d bS bX he aK => ?_, fun as vs ds bS bX he aK => ?_⟩
   ·cases a with
    | h x q =>
      simp only [view] at he
      split at he
      ·rename_i e e6
       have key : (∀ ax, e ≠ .tuple ax) ∧ e.plain = false ∧ d = e.share ∧ ∀ o, e ≠ .ct o := by
        cases e <;> simp only at he <;> first
         | (cases he; done)
         | (split at he
            ·cases he
            ·rename_i eK
             simp only [Option.some.injEq] at he
             exact ⟨(fun _ h => by cases h), by simpa using eK, he.symm, fun _ h => by cases h⟩)
       obtain ⟨ng, eK, rfl, mf⟩ := key
       rw [aI] at aK
       obtain ⟨cM, cN, g1, g2, g3⟩ := aK e e6 eK
       have a1 := h9 e6 (.inl eK)
       have aq := (aI.cJ a1).1 (h.dp x)
       obtain ⟨gp, a2, en, fq, k0, bt, b0, dK, de, dI⟩ := ctx q (s x) (cp (aB x)) (S x) none e aq.2 e6
       rw [g1] at k0
       simp only [Option.some.injEq, Prod.mk.injEq, true_and] at k0
       obtain ⟨rfl, rfl⟩ := k0
       have xY : e.share.tree = true := by cases e <;> first | rfl | (simp [I.plain] at eK; done) | exact (mf _ rfl).elim
       have aW := ay.shared bG e cM fq (fun b aa => bX x (by simp [I.ab]) b (b0 b aa)) de
       exact (aI.cJ xY).2 ⟨F2 ng g3, by rw [g2]; exact aW⟩
      ·cases he
    | aw x q =>
      simp only [view] at he
      split at he
      ·rename_i pg
       split at he
       ·rename_i e e6
        have key : (∀ ax, e ≠ .tuple ax) ∧ d = .ref e.share := by
         cases e <;> simp only at he <;> first
          | (cases he; done)
          | (simp only [Option.some.injEq] at he; exact ⟨(fun _ h => by cases h), he.symm⟩)
        obtain ⟨ng, rfl⟩ := key
        rw [aI] at aK
        obtain ⟨cM, b, o, g1, rfl⟩ := aK e e6 pg
        have a1 := h9 e6 (.inr pg)
        have aq := (aI.cJ a1).1 (h.dp x)
        obtain ⟨gp, a2, en, fq, k0, bt, b0, dK, de, dI⟩ := ctx q (s x) (cp (aB x)) (S x) none e aq.2 e6
        rw [g1] at k0
        simp only [Option.some.injEq, Prod.mk.injEq, true_and] at k0
        obtain ⟨rfl, rfl⟩ := k0
        have aW := ay.shared bG e cM fq (fun b aa => bX x (by simp [I.ab]) b (b0 b aa)) de
        rcases dI with ⟨l, r, _, aZ, _⟩ | ⟨fX, cur, ty, fr, l, r, aN, aZ, aT, b2, cI, _⟩
        ·simp at aZ
        ·simp only [Option.some.injEq, Prod.mk.injEq] at aN
         obtain ⟨rfl, rfl⟩ := aN
         refine (aI.cJ rfl).2 ⟨rfl, ?_⟩
         rw [ay]
         refine ⟨b, l.length, cM, rfl, bX x (by simp [I.ab]) b (bt b aZ), ?_, aW⟩
         intro j c bw
         simp only [World.cell?, aT]
         have ao : cur[l.length + j]? = some c := by
          rw [← Array.getElem?_toList, cI, List.getElem?_append_right (by omega), List.getElem?_append_left (by
           have := (List.getElem?_eq_some_iff.1 bw).1; omega)]
          rw [← bw]; congr 1; omega
         simpa using ao
       ·cases he
      ·cases he
    | fn f cap =>
      simp only [view, Option.map_eq_some_iff] at he
      obtain ⟨ds, jV, rfl⟩ := he
      rw [aI] at aK
      obtain ⟨arr, rfl, ao⟩ := aK
      rw [aI]
      exact ⟨arr, rfl, ih.2 cap _ _ (by simp at bS; omega) (by simpa [I.ab] using bX) jV ao⟩
    | hole => simp [view] at he
    | aa y q => simp [view] at he
    | _ =>
      simp only [view, Option.some.injEq] at he; subst he
      have mB := (aI.cJ rfl).1 aK
      exact (aI.cJ rfl).2 ⟨mB.1, ay.mono bG _ _ _ _ (fun _ h => h) mB.2⟩
   ·cases as with
    | nil =>
      simp only [views, Option.some.injEq] at he; subst he
      rw [ef] at aK ⊢; exact aK
    | cons a as =>
      simp only [views] at he
      split at he
      ·rename_i d ds af ag
       simp only [Option.some.injEq] at he; subst he
       rw [ef] at aK ⊢
       obtain ⟨v, j_, rfl, g1, g2⟩ := aK
       simp at bS
       simp only [I.dV, List.mem_append] at bX
       exact ⟨v, j_, rfl, ih.1 a v d (by omega) (fun t a1 => bX t (.inl a1)) af g1, ih.2 as j_ ds (by omega) (fun t a1 => bX t (.inr a1)) ag g2⟩
      ·cases he
theorem bM.jj (h : bM w0 F0 X F S s aB w) {x : Nat} {q : List Nat} {d0 bx : I} {cM : List Value} {a : Option (Nat × Nat)} {Sn : Nat → Prop}
  (ai : I.sub q (s x) = some d0) (bz : dn w q (s x) (cp (aB x)) none = some (d0, cM, a)) (ag : ∀ vs, bx ≠ .tuple vs) (a1 : q = [] → bx.tree = true ∧ dT bx (aB x))
  (aF : ∀ k p, q = k :: p → (s x).tree = true ∧ (∀ v, iH d0 v → iH bx v)) (hw : bx.wd = d0.wd)
  (aK : ay w F bx cM Sn) (dZ : ∀ b, Sn b → b < w.heap.size) (bG : ∀ b, Sn b → ¬ F b) (bX : ∀ u b, Sn b → ¬ S u b) (bn : ∀ b, Sn b → X b ∨ w0.heap.size ≤ b) :
  bM w0 F0 X F (fZ S x (fun b => S x b ∨ Sn b)) (db (mc x s) x (I.put q bx (s x))) aB w := by
 have ek : db aB x (aB x) = aB := by funext u; simp only [db]; split <;> simp_all
 have main : (I.put q bx (s x)).tree = true ∧ dT (I.put q bx (s x)) (aB x) ∧ ay w F (I.put q bx (s x)) (cp (aB x)) (fun b => S x b ∨ Sn b) := by
  cases q with
  | nil =>
    simp only [dn, Option.some.injEq, Prod.mk.injEq] at bz
    obtain ⟨aN, aZ, aT⟩ := bz
    obtain ⟨g1, g2⟩ := a1 rfl
    simp only [I.put]
    refine ⟨g1, ?_, ?_⟩
    ·exact g2
    ·rw [aZ]; exact ay.mono (fun _ h => h) _ _ _ _ (fun b aa => .inr aa) aK
  | cons k p =>
    obtain ⟨g1, g2⟩ := aF k p rfl
    have aq := (aI.cJ g1).1 (h.dp x)
    obtain ⟨gp, a2, en, fq, k0, bt, b0, dK, de, dI⟩ := ctx (k :: p) (s x) (cp (aB x)) (S x) none d0 aq.2 ai
    rw [bz] at k0
    simp only [Option.some.injEq, Prod.mk.injEq, true_and] at k0
    obtain ⟨rfl, rfl⟩ := k0
    refine ⟨?_, ?_, ?_⟩
    ·rcases rZ k p bx (s x) with ⟨ax, gs, aN, e⟩ | ⟨ax, gs, aN, e⟩ | ⟨sz, xs, ck, aN, e⟩ | ⟨y, z, aN, e⟩ | e <;> rw [e] <;> first | rfl | exact g1
    ·refine xT aq.1 ai g2 (fun _ vs e => (ag vs e).elim) hw
    ·have mono : ∀ b, (en b ∨ Sn b) → (S x b ∨ Sn b) := fun b aa => aa.imp (bt b) id
     rcases dI with ⟨l, r, aN, aZ, aT⟩ | ⟨b, cur, ty, fr, l, r, aN, aZ, aT, b2, cI, bZ⟩
     ·rw [aN]
      exact ay.mono (fun _ h => h) _ _ _ _ mono (aT w bx cM Sn (fun _ _ => rfl) (fun _ _ => rfl) hw aK (fun b aa ao => bX x b aa (bt b ao)))
     ·refine ay.mono (fun _ h => h) _ _ _ _ mono (bZ w bx cM Sn (fun _ _ => rfl) (fun _ _ _ => rfl) ?_ hw aK (fun b aa ao => bX x b aa (bt b ao)))
      rw [aT, ← cI]
 have := h.JL (t := x) main.1 main.2.1 main.2.2 (by rintro b (aa | aa); exact h.eJ x b aa; exact dZ b aa) (by rintro b (aa | aa); exact h.fY x b aa; exact bG b aa)
  (by rintro u b dC (aa | aa); exact fun hu => h.ff u x b dC hu aa; exact bX u b aa) (by rintro b (aa | aa); exact h.dS x b aa; exact bn b aa)
 rwa [ek] at this
end
mutual
def I.c3 : I → Bool
 | .slice _ => false
 | .ref _ => false
 | .fn _ _ => false
 | .h _ _ => false
 | .aw _ _ => false
 | .aa _ _ => false
 | .au _ xs => I.hZ xs
 | .aU d => d.c3
 | .agg ax => I.hZ ax
 | .tuple ax => I.hZ ax
 | _ => true
def I.hZ : List I → Bool
 | [] => true
 | d :: ds => d.c3 && I.hZ ds
end
mutual
theorem ay.c3 {w : World} {F bQ : Nat → Prop} : ∀ (d : I) (cs : List Value) (S : Nat → Prop), d.c3 = true → ay w F d cs S → ay w bQ d cs S
 | .hole, _, _, _, h => h
 | .bool _, _, _, _, h => h
 | .eT, _, _, _, h => h
 | .int _ _, _, _, _, h => h
 | .str _, _, _, _, h => h
 | .da, _, _, _, h => h
 | .bo, _, _, _, h => h
 | .slice xs, cs, S, bc, h => by simp [I.c3] at bc
 | .ref d, cs, S, bc, h => by simp [I.c3] at bc
 | .au sz xs, cs, S, bc, h => by
   rw [ay] at h ⊢
   rcases h with h | ⟨b, cap, cur, e, fr, aR, af, ag, aF, a_, bI, cK, cH, fC, hq, h6, mb⟩
   ·exact .inl h
   ·exact .inr ⟨b, cap, cur, e, fr, aR, af, ag, aF, a_, bI, cK, cH, fC, bf.c3 xs _ _ bc hq, h6, mb⟩
 | .aU d, cs, S, bc, h => by
   rw [ay] at h ⊢
   obtain ⟨b, cur, e, fr, aR, af, ag, aF, a_, bI, cK, cH⟩ := h
   exact ⟨b, cur, e, fr, aR, af, ag, aF, a_, ay.c3 d _ _ bc bI, cK, cH⟩
 | .agg ax, cs, S, bc, h => by rw [ay] at h ⊢; exact bf.c3 ax _ _ bc h
 | .tuple ax, cs, S, bc, h => by rw [ay] at h ⊢; exact bf.c3 ax _ _ bc h
 | .fn _ _, _, _, bc, h => by simp [I.c3] at bc
 | .h _ _, _, _, _, h => h
 | .aw _ _, _, _, _, h => h
 | .aa _ _, _, _, _, h => h
 | .ct _, _, _, _, h => h
theorem bf.c3 {w : World} {F bQ : Nat → Prop} : ∀ (ds : List I) (cs : List Value) (S : Nat → Prop), I.hZ ds = true → bf w F ds cs S → bf w bQ ds cs S
 | [], _, _, _, h => h
 | d :: ds, cs, S, bc, h => by
   simp only [I.hZ, Bool.and_eq_true] at bc
   rw [bf] at h ⊢
   obtain ⟨cv, cw, cc, dB, af, ag, aF, a_, bI, cK⟩ := h
   exact ⟨cv, cw, cc, dB, af, ay.c3 d _ _ bc.1 ag, bf.c3 ds _ _ bc.2 aF, a_, bI, cK⟩
end
theorem K1 : ∀ (q : List Nat) (av d e : I), I.sub q av = some d → I.sub q (I.put q e av) = some e := by
 intro q
 induction q with
 | nil => intro av d e _; simp [I.put, I.sub]
 | cons k q ih =>
   intro av d e h
   cases av with
   | agg ax =>
     simp only [I.sub] at h
     split at h
     ·rename_i x aq
      have ar : k < ax.length := (List.getElem?_eq_some_iff.1 aq).1
      simp only [I.put, aq, I.sub, List.getElem?_set_self ar]
      exact ih _ _ _ h
     ·cases h
   | tuple ax =>
     simp only [I.sub] at h
     split at h
     ·rename_i x aq
      have ar : k < ax.length := (List.getElem?_eq_some_iff.1 aq).1
      simp only [I.put, aq, I.sub, List.getElem?_set_self ar]
      exact ih _ _ _ h
     ·cases h
   | au sz ax =>
     simp only [I.sub] at h
     split at h
     ·rename_i x aq
      have ar : k < ax.length := (List.getElem?_eq_some_iff.1 aq).1
      simp only [I.put, aq, I.sub, List.getElem?_set_self ar]
      exact ih _ _ _ h
     ·cases h
   | aU x =>
     cases k with
     | zero => simp only [I.sub] at h; simp only [I.put, I.sub]; exact ih _ _ _ h
     | succ k => simp [I.sub] at h
   | _ => simp [I.sub] at h
structure cP where
 a : I
 g : Bool
 d : I
 o : I
def I.own : I → Bool
 | .au _ _ => true
 | .aU _ => true
 | _ => false
def I.gL : I → Bool
 | .au _ _ => true
 | .aU _ => true
 | .ct _ => true
 | .agg ax => !I.e1 ax
 | _ => false
def sa (d o : I) : Bool := match d, o with
 | .agg a, .agg b => I.ee a == I.ee b
 | .agg _, _ => false
 | _, .agg _ => false
 | _, _ => true
theorem sb {d : I} (h : d.gL = true) : d.plain = false ∧ d.tree = true ∧ ∀ vs, d ≠ .tuple vs := by
 cases d <;> simp [I.gL] at h <;> first | exact ⟨rfl, rfl, fun vs e => by cases e⟩ | exact ⟨by simp only [I.plain]; exact h, rfl, fun vs e => by cases e⟩
theorem TH {d o : I} (h : d.gL = true) (bJ : o.gL = true) (hl : sa d o = true) : o.wd = d.wd ∧ (∀ v, dT d v → dT o v) ∧ ∀ v, iH d.c7 v → iH o v := by
 cases d <;> simp [I.gL] at h <;> cases o <;> simp [I.gL] at bJ <;> simp [sa] at hl <;> first
  | exact ⟨rfl, fun _ h => h, fun _ h => h⟩
  | exact ⟨by simp only [I.wd]; exact hl.symm, fun _ h => h, fun _ h => h⟩
def cP.ok (s : al) (p : cP) : Prop :=
 if p.g then (match p.a with | .h x q => I.sub q (s x) = some p.d ∧ p.d.gL = true ∧ (p.o = .hole ∨ (p.o.gL = true ∧ sa p.d p.o = true)) | _ => False)
 else view s p.a = some p.d
def iU : List cP → Bool
 | [] => true
 | p :: r => (r.all fun cB => !(p.g || cB.g) || (p.a.ab.all fun u => !cB.a.ab.contains u)) && iU r
def cP.take (s : al) (p : cP) : al :=
 if p.g then (match p.a with | .h x q => db (hX x s) x (I.put q p.d.c7 (s x)) | _ => s) else s
def cP.jj (s : al) (p : cP) : al :=
 if p.g then (match p.a, p.o with | _, .hole => s | .h x q, o => db (mc x s) x (I.put q o (s x)) | _, _ => s) else s
def fw (s : al) (ps : List cP) : al := ps.foldl cP.take s
def iK (s : al) (ps : List cP) : al := ps.foldl cP.jj s
section
variable {w0 w aL : World} {F0 X F Fc : Nat → Prop} {S : Nat → Nat → Prop} {s az : al} {aB kF : Nat → Value}
def TI (w : World) (F : Nat → Prop) (s1 : al) (aB : Nat → Value) (p : cP) (v : Value) (Sn : Nat → Prop) : Prop :=
 ∃ x q a0, p.a = .h x q ∧ I.sub q (s1 x) = some p.d.c7 ∧ dn w q (s1 x) (cp (aB x)) none = some (p.d.c7, cp v, a0) ∧ (s1 x).ab = [] ∧ (q = [] → dT p.d (aB x)) ∧ (q ≠ [] → (s1 x).tree = true) ∧
   dT p.d v ∧ ay w F p.d (cp v) Sn
theorem TJ {p : cP} {x : Nat} (h : (s x).ab = []) (aw : p.g = true → x ∉ p.a.ab) : cP.take s p x = s x := by
 unfold cP.take
 split
 ·rename_i bA
  cases bF : p.a with
  | h y q =>
    have : x ≠ y := by
     have := aw bA
     rw [bF] at this
     simpa [I.ab] using this
    simp only
    rw [jD _ _ this]
    exact yo _ (by rw [h]; simp)
  | _ => rfl
 ·rfl
theorem F3 : ∀ {ps : List cP} {s : al} {x : Nat}, (s x).ab = [] → (∀ p ∈ ps, p.g = true → x ∉ p.a.ab) → fw s ps x = s x := by
 intro ps
 induction ps with
 | nil => intros; rfl
 | cons p ps ih =>
   intro s x h aw
   have e := TJ (s := s) (p := p) h (aw p (by simp))
   show fw (cP.take s p) ps x = s x
   rw [ih (by rw [e]; exact h) (fun cB ew => aw cB (by simp [ew])), e]
theorem rf {d : I} (h : d.own = true) : d.plain = false ∧ d.tree = true ∧ d.c7 = .hole ∧ d.one = true ∧ d.wd = 1 ∧ (∀ v, dT d v ↔ Value.gJ v = true) := by
 cases d <;> simp [I.own] at h <;> exact ⟨rfl, rfl, rfl, rfl, rfl, fun v => Iff.rfl⟩
theorem TK : ∀ (ps : List cP) (vs : List Value) (s : al) (S : Nat → Nat → Prop), bM w0 F0 X F S s aB w → ps.length = vs.length →
  (∀ (i : Nat) (p : cP) (v : Value), ps[i]? = some p → vs[i]? = some v → p.a.plain = true ∧ aI w F s aB p.a v (fun _ => False) ∧ (p.g = true → p.ok s)) → iU ps = true →
  ∃ (Sn cc : Nat → Nat → Prop), bM w0 F0 X F cc (fw s ps) aB w ∧ (∀ u b, cc u b → S u b) ∧
    (∀ (i : Nat) (p : cP) (v : Value), ps[i]? = some p → vs[i]? = some v → p.g = true → TI w F (fw s ps) aB p v (Sn i)) ∧
    (∀ i b, Sn i b → ∃ p, ps[i]? = some p ∧ p.g = true) ∧
    (∀ i b, Sn i b → ∃ u, S u b) ∧ (∀ i u b, Sn i b → ¬ cc u b) ∧ (∀ i j b, i ≠ j → Sn i b → ¬ Sn j b) ∧
    (∀ (bx : I) (gB : Value) (aR : Nat → Prop), (∀ p ∈ ps, p.g = true → ∀ u ∈ p.a.ab, u ∉ bx.ab) → aI w F s aB bx gB aR → aI w F (fw s ps) aB bx gB aR) := by
 intro ps
 induction ps with
 | nil =>
   intro vs s S h hl _ _
   exact ⟨fun _ _ => False, S, h, fun _ _ h => h, fun i p v aw => by simp at aw, fun _ _ h => h.elim, fun _ _ h => h.elim, fun _ _ _ h => h.elim, fun _ _ _ _ h => h.elim, fun _ _ _ _ h => h⟩
 | cons p ps ih =>
   intro vs s S h hl yj lu
   cases vs with
   | nil => simp at hl
   | cons v vs =>
     simp only [List.length_cons, Nat.add_right_cancel_iff] at hl
     simp only [iU, Bool.and_eq_true, List.all_eq_true, Bool.or_eq_true, Bool.not_eq_true'] at lu
     obtain ⟨pw, oq⟩ := lu
     have vH : ∀ cB ∈ ps, (p.g = true ∨ cB.g = true) → ∀ u ∈ p.a.ab, u ∉ cB.a.ab := by
      intro cB ew bA u hu
      rcases pw cB ew with e | e
      ·rcases bA with bA | bA <;> simp [bA] at e
      ·simpa using e u hu
     obtain ⟨f1, f2, f3⟩ := yj 0 p v rfl rfl
     cases bA : p.g with
     | false =>
       have gh : cP.take s p = s := by simp [cP.take, bA]
       obtain ⟨Sn, cc, g1, g2, g3, g4, g5, g6, g7, g8⟩ := ih vs s S h hl (fun i cB gB aw aK => yj (i + 1) cB gB (by simpa using aw) (by simpa using aK)) oq
       have aN : fw s (p :: ps) = fw s ps := by show fw (cP.take s p) ps = _; rw [gh]
       rw [aN]
       refine ⟨fun i => match i with | 0 => fun _ => False | i + 1 => Sn i, cc, g1, g2, ?_, ?_, ?_, ?_, ?_, fun bx gB aR ai => g8 bx gB aR fun cB ew => ai cB (by simp [ew])⟩
       ·intro i cB gB aw aK hY
        cases i with
        | zero => simp at aw; subst aw; rw [bA] at hY; cases hY
        | succ i => exact g3 i cB gB (by simpa using aw) (by simpa using aK) hY
       ·intro i b aa
        cases i with
        | zero => exact aa.elim
        | succ i => simpa using g4 i b aa
       ·intro i b aa
        cases i with
        | zero => exact aa.elim
        | succ i => exact g5 i b aa
       ·intro i u b aa
        cases i with
        | zero => exact aa.elim
        | succ i => exact g6 i u b aa
       ·intro i j b dC an bw
        cases i with
        | zero => exact an.elim
        | succ i =>
          cases j with
          | zero => exact bw.elim
          | succ j => exact g7 i j b (by omega) an bw
     | true =>
       have fN := f3 bA
       simp only [cP.ok, bA, if_true] at fN
       split at fN
       ·rename_i x q bF
        obtain ⟨e6, F4, te⟩ := fN
        obtain ⟨nK, lx, px⟩ := sb F4
        have rh : cO s p.a = some (p.d, db (hX x s) x (I.put q p.d.c7 (s x))) := by
         rw [bF]; simp only [cO, e6, nK]; rfl
        obtain ⟨cc, t1, t2, t3, TL, t4, t5, t6, t7, t8, t9, t10, t11⟩ := pd h f1 f2 rh
        have gh : cP.take s p = db (hX x s) x (I.put q p.d.c7 (s x)) := by simp [cP.take, bA, bF]
        have qj : ∀ cB ∈ ps, x ∉ cB.a.ab := fun cB ew => vH cB ew (.inl bA) x (by rw [bF]; simp [I.ab])
        have F5 : cP.take s p x = I.put q p.d.c7 (s x) := by rw [gh, me]
        have Bj : (cP.take s p x).ab = [] := by
         rw [F5]; exact vF q _ _ _ e6 (.inl nK) (fun _ => by cases ai : p.d <;> first | rfl | (rw [ai] at F4; simp [I.gL] at F4))
        obtain ⟨Sn, dB, g1, g2, g3, g4, g5, g6, g7, g8⟩ := ih vs (cP.take s p) cc (by rw [gh]; exact t1) hl (by
         intro i cB gB aw aK
         obtain ⟨bt, b0, dK⟩ := yj (i + 1) cB gB (by simpa using aw) (by simpa using aK)
         have hm : cB ∈ ps := List.mem_of_getElem? aw
         refine ⟨bt, ?_, ?_⟩
         ·have := t11 _ _ _ b0
          rw [bF] at this
          rw [gh]
          simp only [I.owner, k4] at this
          rwa [yo _ (qj cB hm)] at this
         ·intro hY
          have := dK hY
          simp only [cP.ok, hY, if_true] at this ⊢
          split at this
          ·rename_i y jT tC
           have dC : y ≠ x := fun e => qj cB hm (by rw [tC, e]; simp [I.ab])
           rw [gh, jD _ _ dC]
           have a1 := h9 this.1 (.inl (sb this.2.1).1)
           simp only [hX, E8 a1]
           exact this
          ·exact this.elim) oq
        have aN : fw s (p :: ps) = fw (cP.take s p) ps := rfl
        have sc : fw (cP.take s p) ps x = I.put q p.d.c7 (s x) := by
         rw [F3 Bj (fun cB ew _ => qj cB ew), F5]
        rw [aN]
        refine ⟨fun i => match i with | 0 => TL | i + 1 => Sn i, dB, g1, fun u b aa => t9 u b (g2 u b aa), ?_, ?_, ?_, ?_, ?_, ?_⟩
        rotate_left 5
        ·intro bx gB aR ai jG
         refine g8 bx gB aR (fun cB ew => ai cB (by simp [ew])) ?_
         have := t11 _ _ _ jG
         rw [bF] at this
         rw [gh]
         simp only [I.owner, k4] at this
         rwa [yo _ (ai p (by simp) bA x (by rw [bF]; simp [I.ab]))] at this
        ·intro i cB gB aw aK hY
         cases i with
         | zero =>
           simp at aw aK; subst aw aK
           have Bk := f2
           rw [bF, aI] at Bk
           obtain ⟨cM, a0, cv, cw, sd⟩ := Bk _ e6 nK
           refine ⟨x, q, a0, bF, ?_, ?_, ?_, ?_, ?_, t3, t4⟩
           ·rw [sc]; exact K1 q _ _ _ e6
           ·rw [sc, cw]; exact TF w q _ _ _ _ _ _ _ e6 (I.rY _) cv
           ·rw [sc, ← F5]; exact Bj
           ·intro cG; subst cG
            simp only [I.sub, Option.some.injEq] at e6
            have := (aI.cJ (by rw [e6]; exact lx)).1 (h.dp x)
            rw [e6] at this
            exact this.1
           ·intro cG
            have a1 := h9 e6 (.inl nK)
            rw [sc]
            cases q with
            | nil => exact (cG rfl).elim
            | cons k q => rcases rZ k q p.d.c7 (s x) with ⟨ax, gs, aN, e⟩ | ⟨ax, gs, aN, e⟩ | ⟨sz, xs, ck, aN, e⟩ | ⟨y, z, aN, e⟩ | e <;> rw [e] <;> first | rfl | exact a1
         | succ i => exact g3 i cB gB (by simpa using aw) (by simpa using aK) hY
        ·intro i b aa
         cases i with
         | zero => exact ⟨p, rfl, bA⟩
         | succ i => simpa using g4 i b aa
        ·intro i b aa
         cases i with
         | zero => exact t10 b aa
         | succ i => obtain ⟨u, hu⟩ := g5 i b aa; exact ⟨u, t9 u b hu⟩
        ·intro i u b aa
         cases i with
         | zero => exact fun hu => t7 u b aa (g2 u b hu)
         | succ i => exact g6 i u b aa
        ·intro i j b dC an bw
         cases i with
         | zero =>
           cases j with
           | zero => exact dC rfl
           | succ j => obtain ⟨u, hu⟩ := g5 j b bw; exact t7 u b an hu
         | succ i =>
           cases j with
           | zero => obtain ⟨u, hu⟩ := g5 i b an; exact t7 u b bw hu
           | succ j => exact g7 i j b (by omega) an bw
       ·exact fN.elim
end
def fO (l : List I) : al := fun i => l.getD i .hole
def hH (l : List Value) : Nat → Value := fun i => l.getD i undef
def ot (P : Program) (f : FuncId) (args : Array Value) (w : World) (mm : Value → World → Prop) : Prop :=
 ((callFunc f args).run P w = .ok (.enter f args) w ∧ Calls P f args w (fun e aL => ∃ v, e = .returned v ∧ mm v aL)) ∨
 ∃ v aL, (callFunc f args).run P w = .ok (.value v) aL ∧ mm v aL
theorem ot.mono {P : Program} {f : FuncId} {args : Array Value} {w : World} {mm K2 : Value → World → Prop} (h : ot P f args w mm) (aW : ∀ v aL, mm v aL → K2 v aL) : ot P f args w K2 := by
 rcases h with ⟨af, ag⟩ | ⟨v, aL, af, ag⟩
 ·exact .inl ⟨af, Calls.mono ag fun e aL ⟨v, e, h⟩ => ⟨v, e, aW v aL h⟩⟩
 ·exact .inr ⟨v, aL, af, aW v aL ag⟩
def bm (C : b4) (f : FuncId) (as : List I) (r : I) (outs : List I) : Prop :=
 ∀ (w : World) (F X : Nat → Prop) (S : Nat → Nat → Prop) (vs : List Value), vs.length = as.length → bM w F X F S (fO as) (hH vs) w →
   ot C.P f vs.toArray w fun v aL => ∃ bQ aR, bM w F X bQ aR (fO (r :: outs)) (hH (v :: vs)) aL
def I.res : I → Bool
 | .h _ _ => false
 | .aw _ _ => false
 | .aa _ _ => false
 | .fn _ _ => false
 | _ => true
theorem F6 {d : I} (h : d.tree = true) : d.ab = [] := by cases d <;> first | rfl | (simp [I.tree] at h)
mutual
theorem F7 {s az : al} : ∀ (a : I) (d : I), (∀ u ∈ a.ab, (s u).tree = true → az u = s u) → view s a = some d → view az a = some d
 | .h x q, d, hu, h => by
   have a1 : (s x).tree = true := by
    simp only [view] at h
    split at h
    ·rename_i e e6
     cases e <;> simp only at h <;> first
      | (cases h; done)
      | (split at h
         ·cases h
         ·rename_i aw
          exact h9 e6 (.inl (by simpa using aw)))
    ·cases h
   simp only [view] at h ⊢
   rw [hu x (by simp [I.ab]) a1]; exact h
 | .aw x q, d, hu, h => by
   have a1 : (s x).tree = true := by
    simp only [view] at h
    split at h
    ·rename_i ao
     split at h
     ·rename_i e e6; exact h9 e6 (.inr ao)
     ·cases h
    ·cases h
   simp only [view] at h ⊢
   rw [hu x (by simp [I.ab]) a1]; exact h
 | .aa x q, d, hu, h => by simp [view] at h
 | .fn f cap, d, hu, h => by
   simp only [view, Option.map_eq_some_iff] at h ⊢
   obtain ⟨ds, af, ag⟩ := h
   exact ⟨ds, K3 cap ds (by simpa [I.ab] using hu) af, ag⟩
 | .hole, d, hu, h => h
 | .bool _, d, hu, h => h
 | .eT, d, hu, h => h
 | .int _ _, d, hu, h => h
 | .str _, d, hu, h => h
 | .da, d, hu, h => h
 | .bo, d, hu, h => h
 | .slice _, d, hu, h => h
 | .au _ _, d, hu, h => h
 | .ref _, d, hu, h => h
 | .aU _, d, hu, h => h
 | .agg _, d, hu, h => h
 | .tuple _, d, hu, h => h
 | .ct _, d, hu, h => h
theorem K3 {s az : al} : ∀ (as : List I) (ds : List I), (∀ u ∈ I.dV as, (s u).tree = true → az u = s u) → views s as = some ds → views az as = some ds
 | [], ds, hu, h => h
 | a :: as, ds, hu, h => by
   simp only [I.dV, List.mem_append] at hu
   simp only [views] at h ⊢
   split at h
   ·rename_i x y af ag
    rw [F7 a x (fun u hm => hu u (.inl hm)) af, K3 as y (fun u hm => hu u (.inr hm)) ag]; exact h
   ·cases h
end
section
variable {C : b4} {w0 w aL : World} {F0 X F Fc : Nat → Prop} {S : Nat → Nat → Prop} {s az : al} {aB kF : Nat → Value}
def TM (w : World) (F : Nat → Prop) (s : al) (aB : Nat → Value) (p : cP) (v : Value) (ou : Nat → Prop) : Prop :=
 p.g = true → p.o = .hole ∨ ∃ x q a0 d0, p.a = .h x q ∧ I.sub q (s x) = some d0 ∧ dn w q (s x) (cp (aB x)) none = some (d0, cp v, a0) ∧ (s x).ab = [] ∧
  (q = [] → dT p.o (aB x)) ∧ (q ≠ [] → (s x).tree = true) ∧ p.o.gL = true ∧ ay w F p.o (cp v) ou ∧ p.o.wd = d0.wd ∧ ∀ v, iH d0 v → iH p.o v
theorem TN : ∀ (ps : List cP) (vs : List Value) (s : al) (S ou : Nat → Nat → Prop), bM w0 F0 X F S s aB w → ps.length = vs.length →
  (∀ (i : Nat) (p : cP) (v : Value), ps[i]? = some p → vs[i]? = some v → TM w F s aB p v (ou i)) →
  (∀ i b, ou i b → b < w.heap.size ∧ ¬ F b ∧ (X b ∨ w0.heap.size ≤ b) ∧ ∀ u, ¬ S u b) → (∀ i j b, i ≠ j → ou i b → ¬ ou j b) → iU ps = true →
  ∃ dB, bM w0 F0 X F dB (iK s ps) aB w ∧ ∀ u b, dB u b → S u b ∨ ∃ i, ou i b := by
 intro ps
 induction ps with
 | nil => intro vs s S ou h _ _ _ _ _; exact ⟨S, h, fun u b aa => .inl aa⟩
 | cons p ps ih =>
   intro vs s S ou h hl F8 aa ai lu
   cases vs with
   | nil => simp at hl
   | cons v vs =>
     simp only [List.length_cons, Nat.add_right_cancel_iff] at hl
     simp only [iU, Bool.and_eq_true, List.all_eq_true, Bool.or_eq_true, Bool.not_eq_true'] at lu
     obtain ⟨pw, oq⟩ := lu
     have vH : ∀ cB ∈ ps, (p.g = true ∨ cB.g = true) → ∀ u ∈ p.a.ab, u ∉ cB.a.ab := by
      intro cB ew bA u hu
      rcases pw cB ew with e | e
      ·rcases bA with bA | bA <;> simp [bA] at e
      ·simpa using e u hu
     have skip : cP.jj s p = s → ∃ dB, bM w0 F0 X F dB (iK s (p :: ps)) aB w ∧ ∀ u b, dB u b → S u b ∨ ∃ i, ou i b := by
      intro gh
      obtain ⟨dB, g1, g2⟩ := ih vs s S (fun i => ou (i + 1)) h hl (fun i cB gB aw aK => F8 (i + 1) cB gB (by simpa using aw) (by simpa using aK)) (fun i b h => aa (i + 1) b h)
       (fun i j b dC => ai (i + 1) (j + 1) b (by omega)) oq
      refine ⟨dB, ?_, fun u b hu => (g2 u b hu).imp id fun ⟨i, an⟩ => ⟨i + 1, an⟩⟩
      show bM _ _ _ _ _ (iK (cP.jj s p) ps) _ _
      rw [gh]; exact g1
     cases bA : p.g with
     | false => exact skip (by simp [cP.jj, bA])
     | true =>
       rcases F8 0 p v rfl rfl bA with bJ | ⟨x, q, a0, d0, bF, cv, cw, sd, r2, qk, F9, TO, TP, F_⟩
       ·exact skip (by simp only [cP.jj, bA, bJ, if_true])
       ·obtain ⟨nK, lx, se⟩ := sb F9
        have gh : cP.jj s p = db (mc x s) x (I.put q p.o (s x)) := by
         simp only [cP.jj, bA, if_true, bF]
         cases TQ : p.o <;> first | rfl | (rw [TQ] at F9; simp [I.gL] at F9)
        have step := h.jj (x := x) (q := q) (bx := p.o) cv cw se (fun cG => ⟨lx, r2 cG⟩) (fun k r cG => ⟨qk (by rw [cG]; simp), F_⟩) TP TO
         (fun b h => (aa 0 b h).1) (fun b h => (aa 0 b h).2.1) (fun u b h => (aa 0 b h).2.2.2 u) (fun b h => (aa 0 b h).2.2.1)
        rw [← gh] at step
        obtain ⟨dB, g1, g2⟩ := ih vs (cP.jj s p) _ (fun i => ou (i + 1)) step hl (by
         intro i cB gB aw aK hY
         have hm : cB ∈ ps := List.mem_of_getElem? aw
         rcases F8 (i + 1) cB gB (by simpa using aw) (by simpa using aK) hY with bJ | ⟨y, jT, R, d1, bt, b0, dK, de, dI, dX, jh, hb, mG⟩
         ·exact .inl bJ
         ·have dC : y ≠ x := fun e => vH cB hm (.inl bA) x (by rw [bF]; simp [I.ab]) (by rw [bt, e]; simp [I.ab])
          have nD : cP.jj s p y = s y := by
           rw [gh, jD _ _ dC]
           exact FP _ (by rw [de]; simp)
          exact .inr ⟨y, jT, R, d1, bt, by rw [nD]; exact b0, by rw [nD]; exact dK, by rw [nD]; exact de, dI, by rw [nD]; exact dX, jh, hb, mG⟩)
         (by
          intro i b an
          obtain ⟨hN, gT, hn, b8⟩ := aa (i + 1) b an
          refine ⟨hN, gT, hn, fun u hu => ?_⟩
          simp only [fZ] at hu
          split at hu
          ·rcases hu with hu | hu
           ·exact b8 _ hu
           ·exact ai 0 (i + 1) b (by omega) hu an
          ·exact b8 _ hu)
         (fun i j b dC => ai (i + 1) (j + 1) b (by omega)) oq
        refine ⟨dB, g1, fun u b hu => ?_⟩
        rcases g2 u b hu with hu | ⟨i, an⟩
        ·simp only [fZ] at hu
         split at hu
         ·rename_i e; subst e
          exact hu.imp id fun h => ⟨0, h⟩
         ·exact .inl hu
        ·exact .inr ⟨i + 1, an⟩
def kK (ps : List cP) : Bool := ps.any fun p => !p.g && !p.a.ab.isEmpty
theorem K4 (h : bM w0 F0 X F S s aB w) {ps : List cP} {vs : List Value} {f : FuncId} {r : I} (hl : ps.length = vs.length)
  (jG : ∀ (i : Nat) (p : cP) (v : Value), ps[i]? = some p → vs[i]? = some v → p.a.plain = true ∧ aI w F s aB p.a v (fun _ => False))
  (fN : ∀ p ∈ ps, p.ok s) (lu : iU ps = true) (bz : ∀ (Fc mK : Nat → Prop) (en : Nat → Nat → Prop), (∀ b, F b → Fc b) → (∀ b, mK b → ∃ u, S u b) → bM w Fc mK Fc en (fO (ps.map (·.d))) (hH vs) w →
   ot C.P f vs.toArray w fun v aL => ∃ bQ aR, bM w Fc mK bQ aR (fO (r :: ps.map (·.o))) (hH (v :: vs)) aL) (aW : r.res = true)
  (bc : kK ps = true → r.c3 = true ∧ ∀ p ∈ ps, p.o.c3 = true) :
  ot C.P f vs.toArray w fun v aL => ∃ bQ aR, bM w0 F0 X bQ aR (iK (fw s ps) ps) aB aL ∧ lQ w0 X bQ aR (iK (fw s ps) ps) aB aL r v ∧ ∀ b, F b → bQ b ∧ aL.heap[b]? = w.heap[b]? := by
 obtain ⟨Sn, cc, g1, g2, g3, g4, g5, g6, g7, g8⟩ := TK ps vs s S h hl (fun i p v aw aK => ⟨(jG i p v aw aK).1, (jG i p v aw aK).2, fun _ => fN p (List.mem_of_getElem? aw)⟩) lu
 have apart : ∀ (i j : Nat) (p cB : cP), ps[i]? = some p → ps[j]? = some cB → i ≠ j → (p.g = true ∨ cB.g = true) → ∀ u ∈ p.a.ab, u ∉ cB.a.ab := by
  clear jG fN bz bc g1 g3 g4 g8 hl
  induction ps with
  | nil => intro i j p cB aw; simp at aw
  | cons hW ps ih =>
    simp only [iU, Bool.and_eq_true, List.all_eq_true, Bool.or_eq_true, Bool.not_eq_true'] at lu
    obtain ⟨pw, oq⟩ := lu
    have vH : ∀ cB ∈ ps, (hW.g = true ∨ cB.g = true) → ∀ u ∈ hW.a.ab, u ∉ cB.a.ab := by
     intro cB ew bA u hu
     rcases pw cB ew with e | e
     ·rcases bA with bA | bA <;> simp [bA] at e
     ·simpa using e u hu
    intro i j p cB aw ew dC bA u hu
    cases i with
    | zero =>
      simp at aw; subst aw
      cases j with
      | zero => exact (dC rfl).elim
      | succ j => exact vH cB (List.mem_of_getElem? (by simpa using ew)) bA u hu
    | succ i =>
      cases j with
      | zero =>
        simp at ew; subst ew
        exact fun yq => vH p (List.mem_of_getElem? (by simpa using aw)) bA.symm u yq hu
      | succ j => exact ih oq i j p cB (by simpa using aw) (by simpa using ew) (by omega) bA u hu
 let Fc : Nat → Prop := fun b => F b ∨ (kK ps = true ∧ ∃ u, cc u b)
 let mK : Nat → Prop := fun b => ∃ i, Sn i b
 have Ga : ∀ b, F b → ¬ mK b := fun b bG ⟨i, an⟩ => by obtain ⟨u, hu⟩ := g5 i b an; exact h.fY u b hu bG
 have yr : ∀ u b, cc u b → ¬ mK b := fun u b hu ⟨i, an⟩ => g6 i u b an hu
 have Bl : ∀ b, mK b → (X b ∨ w0.heap.size ≤ b) ∧ b < w.heap.size := fun b ⟨i, an⟩ => by obtain ⟨u, hu⟩ := g5 i b an; exact ⟨h.dS u b hu, h.eJ u b hu⟩
 have pre : bM w Fc mK Fc Sn (fO (ps.map (·.d))) (hH vs) w := by
  refine ⟨fun _ h => h, fun _ h => .inl h, ?_, fun i b an => (Bl b ⟨i, an⟩).2, ?_, fun i j b dC => g7 i j b dC, fun i b an => .inl ⟨i, an⟩, ?_, fun _ _ _ => rfl, Nat.le_refl _, rfl, rfl, rfl⟩
  ·rintro b (aa | ⟨_, u, hu⟩)
   ·exact h.fe b aa
   ·exact g1.eJ u b hu
  ·rintro i b an (aa | ⟨_, u, hu⟩)
   ·exact Ga b aa ⟨i, an⟩
   ·exact g6 i u b an hu
  ·intro t
   cases aw : ps[t]? with
   | none =>
     have : fO (ps.map (·.d)) t = .hole := by simp [fO, List.getD, aw]
     rw [this, aI]; trivial
   | some p =>
     have dZ : t < vs.length := by rw [← hl]; exact (List.getElem?_eq_some_iff.1 aw).1
     have aK : vs[t]? = some vs[t] := List.getElem?_eq_getElem dZ
     have aN : fO (ps.map (·.d)) t = p.d := by simp [fO, List.getD, aw]
     have aZ : hH vs t = vs[t] := by simp [hH, List.getD, aK]
     rw [aN, aZ]
     have hm : p ∈ ps := List.mem_of_getElem? aw
     have ar := fN p hm
     cases bA : p.g with
     | true =>
       obtain ⟨x, q, a0, bt, b0, dK, de, dI, dX, jh, hb⟩ := g3 t p _ aw aK bA
       simp only [cP.ok, bA, if_true, bt] at ar
       exact (aI.cJ (sb ar.2.1).2.1).2 ⟨jh, ay.mono (fun b aa => .inl aa) _ _ _ _ (fun _ h => h) hb⟩
     | false =>
       simp only [cP.ok, bA] at ar
       obtain ⟨f1, f2⟩ := jG t p _ aw aK
       have K5 : ∀ cB ∈ ps, cB.g = true → ∀ u ∈ cB.a.ab, u ∉ p.a.ab := by
        intro cB ew hY u hu
        obtain ⟨j, bw⟩ := List.getElem?_of_mem ew
        refine apart j t cB p bw aw (fun e => ?_) (.inl hY) u hu
        subst e; rw [aw] at bw; simp only [Option.some.injEq] at bw; rw [bw, hY] at bA; cases bA
       have Bk := g8 _ _ _ K5 f2
       have lq : view (fw s ps) p.a = some p.d := F7 _ _ (fun u hu a1 => F3 (F6 a1) (fun cB ew hY yq => K5 cB ew hY u yq hu)) (by simpa using ar)
       refine aI.nothing (TE f1 lq) ((TG g1 (Fc := Fc) (fun b aa => .inl aa) (SizeOf.sizeOf p.a)).1 p.a _ p.d (Nat.le_refl _) ?_ lq Bk)
       intro u hu b aa
       refine .inr ⟨?_, u, aa⟩
       simp only [kK, List.any_eq_true]
       refine ⟨p, hm, ?_⟩
       cases ko : p.a.ab with
       | nil => rw [ko] at hu; cases hu
       | cons _ _ => simp [bA]
 refine ot.mono (bz Fc mK Sn (fun b aa => .inl aa) (fun b ⟨i, an⟩ => g5 i b an) pre) ?_
 rintro v aL ⟨bQ, aR, ao⟩
 have keep : ∀ b, b < w.heap.size → ¬ mK b → aL.heap[b]? = w.heap[b]? := ao.old
 let py : Nat → Prop := fun b => if kK ps = true then F b else bQ b
 have K6 : ∀ b, F b → bQ b := fun b aa => ao.hs b (.inl aa)
 have vI : ∀ b, F b → py b := fun b aa => by
  simp only [py]; split
  ·exact aa
  ·exact K6 b aa
 have ri : ∀ b, py b → bQ b := fun b aa => by
  simp only [py] at aa; split at aa
  ·exact K6 b aa
  ·exact aa
 have K7 : ∀ b, py b → F b ∨ mK b ∨ w.heap.size ≤ b := fun b aa => by
  simp only [py] at aa; split at aa
  ·exact .inl aa
  ·rename_i r7
   rcases ao.hG b aa with (aa | ⟨af, _⟩) | aa | aa
   ·exact .inl aa
   ·exact (r7 af).elim
   ·exact .inr (.inl aa)
   ·exact .inr (.inr aa)
 have mid : bM w0 F0 X py cc (fw s ps) aB aL := by
  refine ⟨fun b aa => vI b (g1.hs b aa), ?_, fun b aa => ao.fe b (ri b aa), fun t b aa => Nat.lt_of_lt_of_le (g1.eJ t b aa) ao.size, ?_, g1.ff, g1.dS, ?_, ?_, Nat.le_trans g1.size ao.size, ao.os.trans g1.os, ao.tape.trans g1.tape, ao.output.trans g1.output⟩
  ·intro b aa
   rcases K7 b aa with aa | aa | aa
   ·exact g1.hG b aa
   ·rcases (Bl b aa).1 with h | h
    ·exact .inr (.inl h)
    ·exact .inr (.inr h)
   ·exact .inr (.inr (Nat.le_trans g1.size aa))
  ·intro t b a1 aa
   rcases K7 b aa with aa | aa | aa
   ·exact g1.fY t b a1 aa
   ·exact yr t b a1 aa
   ·exact absurd (g1.eJ t b a1) (by omega)
  ·intro t
   exact aI.frame (Sx := cc) (fun b aa => keep b (h.fe b aa) (Ga b aa)) vI (fun x b aa => keep b (g1.eJ x b aa) (yr x b aa)) g1.dp _ _ _ (fun b aa => keep b (g1.eJ t b aa) (yr t b aa)) (g1.dp t)
  ·intro b aa kG
   refine (keep b (Nat.lt_of_lt_of_le aa g1.size) fun aq => ?_).trans (g1.old b aa kG)
   rcases (Bl b aq).1 with h | h
   ·exact kG h
   ·omega
 have K8 : ∀ (d : I) (cs : List Value) (dS : Nat → Prop), (kK ps = true → d.c3 = true) → ay aL bQ d cs dS → ay aL py d cs dS := by
  intro d cs dS FH ha
  by_cases hle : kK ps = true
  ·exact ay.c3 d cs dS (FH hle) ha
  ·exact ay.mono (fun b aa => by simp only [py]; rw [if_neg hle]; exact aa) _ _ _ _ (fun _ h => h) ha
 have bound : ∀ i b, aR i b → b < aL.heap.size ∧ ¬ py b ∧ (X b ∨ w0.heap.size ≤ b) ∧ ∀ u, ¬ cc u b := by
  intro i b aa
  refine ⟨ao.eJ i b aa, fun bG => ao.fY i b aa (ri b bG), ?_, fun u hu => ?_⟩
  ·rcases ao.dS i b aa with aq | aq
   ·exact (Bl b aq).1
   ·exact .inr (Nat.le_trans g1.size aq)
  ·rcases ao.dS i b aa with aq | aq
   ·exact yr u b hu aq
   ·exact absurd (g1.eJ u b hu) (by omega)
 obtain ⟨dB, bt, b0⟩ := TN ps vs (fw s ps) cc (fun i => aR (i + 1)) mid hl (by
  intro i p gB aw aK bA
  have hm : p ∈ ps := List.mem_of_getElem? aw
  have ar := fN p hm
  obtain ⟨x, q, a0, aN, aZ, aT, b2, cI, bZ, bO, fF⟩ := g3 i p gB aw aK bA
  simp only [cP.ok, bA, if_true, aN] at ar
  rcases ar.2.2 with bJ | bJ
  ·exact .inl bJ
  ·obtain ⟨hk, l2, ys⟩ := TH ar.2.1 bJ.1 bJ.2
   refine .inr ⟨x, q, a0, p.d.c7, aN, aZ, ?_, b2, fun cG => l2 _ (cI cG), bZ, bJ.1, ?_, hk.trans (I.rY _).symm, ys⟩
   ·cases q with
    | nil => simpa only [dn] using aT
    | cons k q =>
      have a1 := bZ (by simp)
      rw [AU (k :: q) _ _ (cc x) none _ ((aI.cJ a1).1 (g1.dp x)).2 aZ (fun b aa => keep b (g1.eJ x b aa) (yr x b aa))]
      exact aT
   ·have := ao.dp (i + 1)
    have mg : fO (r :: ps.map (·.o)) (i + 1) = p.o := by simp [fO, List.getD, aw]
    have jg : hH (v :: vs) (i + 1) = gB := by simp [hH, List.getD, aK]
    rw [mg, jg] at this
    exact K8 _ _ _ (fun hle => (bc hle).2 p hm) ((aI.cJ (sb bJ.1).2.1).1 this).2)
  (fun i b aa => bound (i + 1) b aa) (fun i j b dC => ao.ff (i + 1) (j + 1) b (by omega)) lu
 refine ⟨py, dB, bt, ?_, fun b aa => ⟨vI b aa, keep b (h.fe b aa) (Ga b aa)⟩⟩
 have bn := ao.dp 0
 have mg : fO (r :: ps.map (·.o)) 0 = r := rfl
 have jg : hH (v :: vs) 0 = v := rfl
 rw [mg, jg] at bn
 cases a1 : r.tree with
 | false =>
   cases r <;> first
    | (simp [I.tree] at a1; done)
    | (simp [I.res] at aW; done)
    | exact .inl ⟨rfl, by rw [aI]; trivial⟩
 | true =>
   obtain ⟨s1, s2⟩ := (aI.cJ a1).1 bn
   have fi := K8 _ _ _ (fun hle => (bc hle).1) s2
   refine .inr ⟨a1, s1, aR 0, fi, fun b aa => (bound 0 b aa).1, fun b aa => (bound 0 b aa).2.1, fun u b aa hu => ?_, fun b aa => (bound 0 b aa).2.2.1⟩
   rcases b0 u b hu with hu | ⟨i, an⟩
   ·exact (bound 0 b aa).2.2.2 u hu
   ·exact ao.ff 0 (i + 1) b (by omega) aa an
theorem TR (h : bM w0 F0 X F S s aB w) {ps : List cP} {vs : List Value} {f : FuncId} {r : I} (hl : ps.length = vs.length)
  (jG : ∀ (i : Nat) (p : cP) (v : Value), ps[i]? = some p → vs[i]? = some v → p.a.plain = true ∧ aI w F s aB p.a v (fun _ => False))
  (fN : ∀ p ∈ ps, p.ok s) (lu : iU ps = true) (bz : bm C f (ps.map (·.d)) r (ps.map (·.o))) (aW : r.res = true)
  (bc : kK ps = true → r.c3 = true ∧ ∀ p ∈ ps, p.o.c3 = true) :
  ot C.P f vs.toArray w fun v aL => ∃ bQ aR, bM w0 F0 X bQ aR (iK (fw s ps) ps) aB aL ∧ lQ w0 X bQ aR (iK (fw s ps) ps) aB aL r v ∧ ∀ b, F b → bQ b ∧ aL.heap[b]? = w.heap[b]? :=
 K4 h hl jG fN lu (fun Fc mK en _ _ aw => bz w Fc mK en vs (by simp [hl]) aw) aW bc
end
structure bU where
 dst : Option Nat
 bD : fG
 guard : Option (Nat × Bool)
def yt (ops : Array Oper) : Option (Nat × Bool) → Option (Option (Nat × Bool))
 | none => some none
 | some (j, b) => match (ops[j]?).bind (·.dst) with
   | some t => some (some (t, b))
   | none => none
structure Fr where
 n : Nat
 fx : List Nat
def lU (n : Fr) : Option Nat → Bool
 | none => true
 | some t => decide (t < n.n) && !n.fx.contains t
def pz (op : Op) : fG := match cr op with
 | some bD => bD
 | none => .bad
def ql (n : Fr) (ops : Array Oper) (o : Oper) : Option bU :=
 if lU n o.dst = true then match yt ops o.guard with
  | some g => some ⟨o.dst, pz o.op, g⟩
  | none => none
 else none
def qm (n : Fr) (ops : Array Oper) : List Oper → Option (List bU)
 | [] => some []
 | o :: os => match ql n ops o, qm n ops os with
   | some r, some rs => some (r :: rs)
   | _, _ => none
def Bm (C : b4) (s : al) (f : aH) (args : List aH) (K : I → al → Prop) : Prop :=
 ∃ (g : FuncId) (caps : List I) (ps : List cP) (r : I), aJ s f = .fn g caps ∧ I.e1 caps = true ∧ ps.map (·.a) = args.map (aJ s) ++ caps ∧ (∀ p ∈ ps, p.ok s) ∧ iU ps = true ∧
   bm C g (ps.map (·.d)) r (ps.map (·.o)) ∧ r.res = true ∧ (kK ps = true → r.c3 = true ∧ ∀ p ∈ ps, p.o.c3 = true) ∧ K r (iK (fw s ps) ps)
mutual
def I.hQ (s : al) : I → Bool
 | .h x q => q.isEmpty && (s x).own
 | .aa x _ => !(s x).plain
 | .aw _ _ => false
 | .hole => true
 | .fn _ cap => I.sf s cap
 | d => d.plain
def I.sf (s : al) : List I → Bool
 | [] => true
 | d :: ds => d.hQ s && I.sf s ds
end
def rj (s : al) : List (Nat × I) → al
 | [] => s
 | p :: L => rj (db s p.1 p.2) L
def qn (s : al) : List (Nat × I) → Bool
 | [] => true
 | p :: L => p.2.hQ s && qn s L
def mL (s : al) (us : List Nat) : List (Nat × I) := us.map fun u => (u, s u)
def ov (C : b4) (s : al) (bD : fG) (K : I → al → Prop) : Prop :=
 match bD with
 | .call f args => ∃ (g : FuncId) (caps : List I) (ps : List cP) (r : I), aJ s f = .fn g caps ∧ I.e1 caps = true ∧ ps.map (·.a) = args.map (aJ s) ++ caps ∧ (∀ p ∈ ps, p.ok s) ∧ iU ps = true ∧
   bm C g (ps.map (·.d)) r (ps.map (·.o)) ∧ r.res = true ∧ (kK ps = true → r.c3 = true ∧ ∀ p ∈ ps, p.o.c3 = true) ∧ K r (iK (fw s ps) ps)
 | .shr bD => ∃ av s1, bB C s bD = some (av, s1) ∧ av.tree = true ∧ (∀ vs, av ≠ .tuple vs) ∧ K av.share s1
 | .nc f args u x => s u = .h x [] ∧ (s x).own = true ∧ Bm C s f args fun av s1 => s1 u = .hole ∧ (s1 x).own = true ∧ K av (db s1 u (.h x []))
 | .nd f args us => qn s (mL s us) = true ∧ Bm C s f args fun av s1 => qn s1 (mL s us) = true ∧ K av (rj s1 (mL s us))
 | bD => ∃ av s1, bB C s bD = some (av, s1) ∧ K av s1
theorem Bn {C : b4} {s : al} {bD : fG} {K dx : I → al → Prop} (h : ov C s bD K) (ar : ∀ av s, K av s → dx av s) : ov C s bD dx := by
 cases bD with
 | call f args =>
   obtain ⟨g, caps, ps, r, af, gM, ag, aF, a_, bI, cK, cH, fC⟩ := h
   exact ⟨g, caps, ps, r, af, gM, ag, aF, a_, bI, cK, cH, ar _ _ fC⟩
 | shr bD =>
   obtain ⟨av, s1, af, ag, aF, a_⟩ := h
   exact ⟨av, s1, af, ag, aF, ar _ _ a_⟩
 | nc f args u x =>
   obtain ⟨bt, b0, g, caps, ps, r, af, gM, ag, aF, a_, bI, cK, cH, fC, hq, h6⟩ := h
   exact ⟨bt, b0, g, caps, ps, r, af, gM, ag, aF, a_, bI, cK, cH, fC, hq, ar _ _ h6⟩
 | nd f args us =>
   obtain ⟨b0, g, caps, ps, r, af, gM, ag, aF, a_, bI, cK, cH, fC, hq⟩ := h
   exact ⟨b0, g, caps, ps, r, af, gM, ag, aF, a_, bI, cK, cH, fC, ar _ _ hq⟩
 | _ =>
   obtain ⟨av, s1, af, ag⟩ := h
   exact ⟨av, s1, af, ar _ _ ag⟩
def mn (C : b4) (s : al) (o : bU) (K : al → Prop) : Prop :=
 match o.guard with
 | none => ov C s o.bD fun av s1 => K (fin s1 o.dst av)
 | some (t, b) => match s t with
   | .bool fX => if fX = b then ov C s o.bD (fun av s1 => K (fin s1 o.dst av)) else K (fin s o.dst (.tuple []))
   | .tuple [] => K (fin s o.dst (.tuple []))
   | _ => False
def lV (C : b4) (s : al) : List bU → (al → Prop) → Prop
 | [], K => K s
 | o :: os, K => mn C s o fun s1 => lV C s1 os K
def jk (C : b4) (ros : List bU) (s : al) : List Nat → (al → Prop) → Prop
 | [], K => K s
 | i :: l, K => match ros[i]? with
   | none => jk C ros s l K
   | some o => mn C s o fun s1 => jk C ros s1 l K
theorem TS (C : b4) (K : al → Prop) : ∀ (rs pre : List bU) (s : al), lV C s rs K → jk C (pre ++ rs) s ((List.range rs.length).map (· + pre.length)) K := by
 intro rs
 induction rs with
 | nil => intro pre s h; exact h
 | cons r rs ih =>
   intro pre s h
   rw [List.length_cons, List.range_succ_eq_map, List.map_cons, List.map_map]
   simp only [jk, Nat.zero_add]
   rw [List.getElem?_append_right (Nat.le_refl _)]
   simp only [Nat.sub_self, List.getElem?_cons_zero]
   have key : ∀ s1, lV C s1 rs K → jk C (pre ++ r :: rs) s1 ((List.range rs.length).map ((fun x => x + pre.length) ∘ Nat.succ)) K := by
    intro s1 af
    have := ih (pre ++ [r]) s1 af
    simp only [List.append_assoc, List.singleton_append, List.length_append, List.length_singleton] at this
    have e : ((fun x => x + pre.length) ∘ Nat.succ) = fun x => x + (pre.length + 1) := by funext x; simp; omega
    rw [e]; exact this
   simp only [lV] at h
   unfold mn at h ⊢
   split
   ·rename_i bA; rw [bA] at h; exact Bn h fun av s1 => key _
   ·rename_i t b bA
    rw [bA] at h
    simp only at h
    split
    ·rename_i fX ab
     rw [ab] at h
     simp only at h
     split
     ·rename_i aa; rw [if_pos aa] at h; exact Bn h fun av s1 => key _
     ·rename_i aa; rw [if_neg aa] at h; exact key _ h
    ·rename_i ab; rw [ab] at h; exact key _ h
    ·rename_i af ag
     split at h
     ·exact af _ (by assumption)
     ·exact ag (by assumption)
     ·exact h
structure Rel (w0 : World) (F0 X : Nat → Prop) (n : Fr) (ρ : Nat → Value) (s : al) (a : Act) (w : World) : Prop where
 defers : a.defers = []
 size : a.tmps.size = n.n
 fixed : ∀ i ∈ n.fx, a.tmps.getD i undef = ρ i
 rel : ∃ F S, bM w0 F0 X F S s (fun t => a.tmps.getD t undef) w
section
variable {C : b4} {w0 w : World} {F0 X : Nat → Prop} {n : Fr} {ρ : Nat → Value} {s s1 : al} {a : Act} {av : I} {Q : Exit → Act → World → Prop}
theorem yu {dst : Option Nat} (v : Value) (ab : a.tmps.size = n.n) (ai : lU n dst = true) :
  (fun t => (a.put dst v).tmps.getD t undef) = nC (fun t => a.tmps.getD t undef) dst v ∧ (a.put dst v).tmps.size = n.n ∧ (a.put dst v).defers = a.defers := by
 cases dst with
 | none => exact ⟨rfl, ab, rfl⟩
 | some d =>
   simp only [lU, Bool.and_eq_true, decide_eq_true_eq] at ai
   refine ⟨?_, by simp [Act.put, ab], rfl⟩
   funext t
   simp only [Act.put, nC, db, Array.getD_eq_getD_getElem?]
   by_cases h : t = d
   ·subst h
    rw [if_pos rfl, Array.getElem?_setIfInBounds_self_of_lt (by omega)]; rfl
   ·rw [if_neg h, Array.getElem?_setIfInBounds_ne (fun e => h e.symm)]
theorem Rel.put {F S} (ai : a.defers = []) (ab : a.tmps.size = n.n) (bz : ∀ i ∈ n.fx, a.tmps.getD i undef = ρ i) {aL : World} (aW : bM w0 F0 X F S s (fun t => a.tmps.getD t undef) aL) {v : Value} (aK : lQ w0 X F S s (fun t => a.tmps.getD t undef) aL av v)
  {dst : Option Nat} (fN : lU n dst = true) : Rel w0 F0 X n ρ (fin s dst av) (a.put dst v) aL := by
 obtain ⟨aN, aZ, aT⟩ := yu (n := n) (dst := dst) v ab fN
 obtain ⟨aR, bE⟩ := aW.fin aK dst
 refine ⟨aT.trans ai, aZ, fun i an => ?_, F, aR, by rw [aN]; exact bE⟩
 rw [congrFun aN i]
 cases dst with
 | none => exact bz i an
 | some d =>
   simp only [lU, Bool.and_eq_true, Bool.not_eq_true', List.contains_eq_mem, decide_eq_false_iff_not] at fN
   have dC : i ≠ d := fun e => fN.2 (by rw [← e]; exact an)
   simp only [nC]
   rw [jD _ _ dC]
   exact bz i an
theorem Rel.skip (h : Rel w0 F0 X n ρ s a w) {dst : Option Nat} (fN : lU n dst = true) : Rel w0 F0 X n ρ (fin s dst (.tuple [])) (a.put dst undef) w := by
 obtain ⟨ai, ab, bz, F, S, aW⟩ := h
 refine Rel.put (av := .tuple []) ai ab bz aW (.inl ⟨rfl, (aI.cJ (d := .tuple []) rfl).2 ⟨?_, ?_⟩⟩) fN
 ·exact ⟨#[], rfl, rfl, fun k d x ar => by simp at ar⟩
 ·rw [ay, bf]; rfl
theorem K9 {F : Nat → Prop} {aB : Nat → Value} {w : World} : ∀ {ds es : List I} {vs us : List Value}, ef w F s aB ds vs → ef w F s aB es us → ef w F s aB (ds ++ es) (vs ++ us) := by
 intro ds
 induction ds with
 | nil => intro es vs us af ag; rw [ef] at af; subst af; exact ag
 | cons d ds ih =>
   intro es vs us af ag
   rw [ef] at af
   obtain ⟨v, j_, rfl, g1, g2⟩ := af
   rw [List.cons_append, List.cons_append, ef]
   exact ⟨v, _, rfl, g1, ih g2 ag⟩
theorem K_ {F : Nat → Prop} {aB : Nat → Value} {w : World} : ∀ {ds : List I} {vs : List Value}, ef w F s aB ds vs → ds.length = vs.length ∧ ∀ (i : Nat) (d : I) (v : Value), ds[i]? = some d → vs[i]? = some v → aI w F s aB d v (fun _ => False) := by
 intro ds
 induction ds with
 | nil => intro vs h; rw [ef] at h; subst h; exact ⟨rfl, fun i d v h => by simp at h⟩
 | cons d ds ih =>
   intro vs h
   rw [ef] at h
   obtain ⟨v, j_, rfl, g1, g2⟩ := h
   obtain ⟨bt, b0⟩ := ih g2
   refine ⟨by simp [bt], fun i bx gB ai aK => ?_⟩
   cases i with
   | zero => simp at ai aK; subst ai aK; exact g1
   | succ i => exact b0 i bx gB (by simpa using ai) (by simpa using aK)
theorem nL {op : Op} {bD : fG} (h : pz op = bD) : bD = .bad ∨ cr op = some bD := by
 unfold pz at h
 split at h
 ·subst h; right; assumption
 ·exact .inl h.symm
theorem TT {op : Op} {bD : fG} : cr op ≠ some (.shr bD) := by
 intro h
 unfold cr at h
 split at h <;> (try split at h) <;> (try split at h) <;> (try split at h) <;> (try simp [Option.map_eq_some_iff] at h)
theorem TU {op : Op} {f : aH} {args : List aH} {u x : Nat} : cr op ≠ some (.nc f args u x) := by
 intro h
 unfold cr at h
 split at h <;> (try split at h) <;> (try split at h) <;> (try split at h) <;> (try simp [Option.map_eq_some_iff] at h)
theorem TV {op : Op} {f : aH} {args : List aH} {us : List Nat} : cr op ≠ some (.nd f args us) := by
 intro h
 unfold cr at h
 split at h <;> (try split at h) <;> (try split at h) <;> (try split at h) <;> (try simp [Option.map_eq_some_iff] at h)
theorem TW {op : Op} {T : TypeId} {x : aH} : cr op ≠ some (.kc T x) := by
 intro h
 unfold cr at h
 split at h <;> (try split at h) <;> (try split at h) <;> (try split at h) <;> (try simp [Option.map_eq_some_iff] at h)
theorem TX {op : Op} {x : aH} : cr op ≠ some (.nI x) := by
 intro h
 unfold cr at h
 split at h <;> (try split at h) <;> (try split at h) <;> (try split at h) <;> (try simp [Option.map_eq_some_iff] at h)
theorem TY {op : Op} {x : aH} : cr op ≠ some (.mj x) := by
 intro h
 unfold cr at h
 split at h <;> (try split at h) <;> (try split at h) <;> (try split at h) <;> (try simp [Option.map_eq_some_iff] at h)
theorem TZ {op : Op} {x : aH} (h : cr op = some (.cz x)) : ∃ cA, op = .move cA ∧ dz cA = some x := by
 unfold cr at h
 split at h <;> (try split at h) <;> (try split at h) <;> (try split at h) <;> (try simp [Option.map_eq_some_iff] at h)
 exact ⟨_, rfl, h⟩
theorem T0 {op : Op} {x : aH} (h : cr op = some (.fu x)) : ∃ cA, op = .assign cA ∧ dz cA = some x := by
 unfold cr at h
 split at h <;> (try split at h) <;> (try split at h) <;> (try split at h) <;> (try simp [Option.map_eq_some_iff] at h)
 exact ⟨_, rfl, h⟩
theorem T1 {op : Op} {T bR : TypeId} {x y : aH} : cr op ≠ some (.oi T bR x y) := by
 intro h
 unfold cr at h
 split at h <;> (try split at h) <;> (try split at h) <;> (try split at h) <;> (try simp [Option.map_eq_some_iff] at h)
theorem T2 {op : Op} {T bR : TypeId} {x y : aH} (h : cr op = some (.app T bR x y)) : ∃ a b, op = .call ⟨.builtin .append, #[a, b], #[T, bR]⟩ ∧ dz a = some x ∧ dz b = some y := by
 cases op with
 | call c =>
   obtain ⟨callee, args, argTypes⟩ := c
   simp only [cr] at h
   split at h
   ·split at h <;> simp at h
   ·split at h <;> simp at h
   ·split at h <;> simp at h
   ·(split at h <;> try split at h) <;> simp at h
   ·(split at h <;> try split at h) <;> simp at h
   ·split at h
    ·rename_i a b yv Bi nf tz
     split at h
     ·rename_i cA kH aq hy
      simp only [Option.some.injEq, fG.app.injEq] at h
      obtain ⟨rfl, rfl, rfl, rfl⟩ := h
      refine ⟨a, b, ?_, aq, hy⟩
      have aN : args = #[a, b] := by apply Array.ext'; exact nf
      have aZ : argTypes = #[yv, Bi] := by apply Array.ext'; exact tz
      subst aN aZ
      rfl
     ·cases h
    ·cases h
   ·cases h
 | makeFunc fn first cs =>
   cases fn <;> simp only [cr] at h <;> first | (cases h; done) | (split at h <;> simp at h)
 | slice T x df an hh =>
   cases hh <;> simp only [cr] at h <;> first | (cases h; done) | (split at h <;> simp at h)
 | makeMap T r => cases r <;> simp only [cr] at h <;> simp at h
 | lookup T x i c => cases c <;> simp only [cr] at h <;> first | (cases h; done) | (split at h <;> simp at h)
 | _ => simp only [cr] at h <;> first | (cases h; done) | (simp at h; done) | (split at h <;> simp at h)
theorem bM.alias {F : Nat → Prop} {S : Nat → Nat → Prop} {aB : Nat → Value} {u x : Nat} (h : bM w0 F0 X F S s aB w) (hu : s u = .hole) (aq : (s x).own = true) (aK : cp (aB u) = cp (aB x)) (af : Value.gJ (aB u) = true) :
  bM w0 F0 X F (fZ S u (fun _ => False)) (db s u (.h x [])) aB w := by
 have ek : db aB u (aB u) = aB := by funext y; simp only [db]; split <;> simp_all
 have := h.vn (t := u) (d := .h x []) (v := aB u) rfl (by
  rw [aI]
  intro d ai aw
  simp only [I.sub, Option.some.injEq] at ai
  subst ai
  exact ⟨cp (aB x), none, rfl, aK, ((rf aq).2.2.2.2.2 _).2 af⟩)
 rwa [ek] at this
theorem lQ.less {F : Nat → Prop} {S aR : Nat → Nat → Prop} {aB : Nat → Value} {s1 : al} {v : Value} (bX : ∀ u b, aR u b → S u b) (aW : av.res = true) (h : lQ w0 X F S s aB w av v) : lQ w0 X F aR s1 aB w av v := by
 rcases h with ⟨af, ag⟩ | ⟨af, ag, Sn, aF, a_, bI, cK, cH⟩
 ·refine .inl ⟨af, ?_⟩
  cases av <;> first
   | (simp [I.res] at aW; done)
   | (rw [aI]; trivial)
   | (rw [aI] at ag ⊢; exact ag)
 ·exact .inr ⟨af, ag, Sn, aF, a_, bI, fun u b aa hu => cK u b aa (bX u b hu), cH⟩
theorem Gb (bp : C.eP) (h : Rel w0 F0 X n ρ s a w) {o : Oper} {f : aH} {args : List aH} (cm : cr o.op = some (.call f args)) (ai : lU n o.dst = true) {K : I → al → Prop} {L : al → Prop} {next : Act → World → Prop}
  (hw : Bm C s f args K) (sg : ∀ F S bQ aR w aL av s1 v, bM w0 F0 X F S s (fun t => a.tmps.getD t undef) w → K av s1 → av.res = true → bM w0 F0 X bQ aR s1 (fun t => a.tmps.getD t undef) aL → lQ w0 X bQ aR s1 (fun t => a.tmps.getD t undef) aL av v → (∀ b, F b → bQ b ∧ aL.heap[b]? = w.heap[b]?) →
   ∃ s2 dB, L (fin s2 o.dst av) ∧ bM w0 F0 X bQ dB s2 (fun t => a.tmps.getD t undef) aL ∧ lQ w0 X bQ dB s2 (fun t => a.tmps.getD t undef) aL av v)
  (bc : ∀ az cN aL, L az → Rel w0 F0 X n ρ az cN aL → next cN aL) : o.wp C.P a w next Q := by
 have pA := h
 obtain ⟨iV, d_, hI, F, S, aW⟩ := h
 obtain ⟨g, caps, ps, r, af, gM, ag, aF, a_, bI, cK, cH, fC⟩ := hw
 obtain ⟨dst, op, ty, pos, after, guard⟩ := o
 simp only at cm ai sg
 cases op with
 | call c =>
   obtain ⟨callee, nh, argTypes⟩ := c
   simp only [cr] at cm
   split at cm
   ·split at cm
    ·rename_i yw _ _ T3 xs bz qj
     simp only [Option.some.injEq, fG.call.injEq] at cm
     obtain ⟨rfl, rfl⟩ := cm
     obtain ⟨f1, f2⟩ := fg aW (fun _ => rfl) bz
     rw [af, aI] at f2
     obtain ⟨arr, f3, f4⟩ := f2
     have tD : execOp a.eval { dst, op := .call { callee := .value yw, args := nh, argTypes }, type := ty, pos, after, guard } = callFunc g ((nh.toList.map a.eval ++ arr.toList).toArray) := by
      have : a.eval yw = .func (.func g) #[] arr := f3
      simp only [execOp, resolve, this, Deferred.ofValue, pure_bind, invoke]
      congr 1
      apply Array.ext'; simp
     unfold Oper.wp
     rw [tD]
     have yx : ef w F s (fun t => a.tmps.getD t undef) (xs.map (aJ s) ++ caps) (nh.toList.map a.eval ++ arr.toList) := K9 (Bg aW (fun _ => rfl) _ _ (tx qj)) f4
     rw [← ag] at yx
     obtain ⟨hk, l2⟩ := K_ yx
     have eK : ∀ d ∈ xs.map (aJ s) ++ caps, d.plain = true := by
      intro d ai
      rcases List.mem_append.1 ai with ai | ai
      ·obtain ⟨x, aq, rfl⟩ := List.mem_map.1 ai
       exact JR s x fun av e => by
        subst e
        have hm := tx qj
        have : some (aH.c av) ∈ xs.map some := List.mem_map.2 ⟨_, aq, rfl⟩
        rw [← hm] at this
        obtain ⟨o, _, bJ⟩ := List.mem_map.1 this
        cases o with
        | const v => simp only [dz, Option.map_eq_some_iff] at bJ; obtain ⟨c, ao, e⟩ := bJ; cases e; exact Fe ao
        | tmp n => simp [dz] at bJ
        | func g => simp [dz] at bJ
        | global g => simp [dz] at bJ
      ·obtain ⟨k, ar⟩ := List.getElem?_of_mem ai
       exact AR gM ar
     have Gc := TR (C := C) aW (ps := ps) (vs := nh.toList.map a.eval ++ arr.toList) (f := g) (r := r) (by simpa using hk)
      (fun i p v aw aK => ⟨eK p.a (by rw [← ag]; exact List.mem_map.2 ⟨p, List.mem_of_getElem? aw, rfl⟩), l2 i p.a v (by simp [aw]) aK⟩) aF a_ bI cK cH
     rcases Gc with ⟨dR, br⟩ | ⟨v, aL, dR, bQ, aR, br, dQ, ca⟩
     ·rw [dR, Oper.upon_enter]
      refine Calls.mono br ?_
      rintro e aL ⟨v, rfl, bQ, aR, bt, b0, dK⟩
      obtain ⟨s2, dB, m1, m2, m3⟩ := sg _ _ _ _ _ _ _ _ _ aW fC cK bt b0 dK
      exact bc _ _ _ m1 (Rel.put iV d_ hI m2 m3 ai)
     ·rw [dR, Oper.upon_value]
      obtain ⟨s2, dB, m1, m2, m3⟩ := sg _ _ _ _ _ _ _ _ _ aW fC cK br dQ ca
      exact bc _ _ _ m1 (Rel.put iV d_ hI m2 m3 ai)
    ·cases cm
   ·split at cm
    ·simp only [Option.map_eq_some_iff] at cm; obtain ⟨_, _, cm⟩ := cm; cases cm
    ·cases cm
   ·split at cm
    ·simp only [Option.map_eq_some_iff] at cm; obtain ⟨_, _, cm⟩ := cm; cases cm
    ·cases cm
   iterate 3
    ·split at cm
     ·split at cm <;> cases cm
     ·cases cm
   ·cases cm
 | makeFunc fn first cs =>
   cases fn <;> simp only [cr] at cm <;> first | (cases cm; done) | (split at cm <;> simp at cm)
 | slice T x df an hh =>
   cases hh <;> simp only [cr] at cm <;> first | (cases cm; done) | (split at cm <;> simp at cm)
 | makeMap T r => cases r <;> simp only [cr] at cm <;> simp at cm
 | lookup T x i c => cases c <;> simp only [cr] at cm <;> first | (cases cm; done) | (split at cm <;> simp at cm)
 | _ => simp only [cr] at cm <;> first | (cases cm; done) | (simp at cm; done) | (split at cm <;> simp at cm)
theorem T4 (bp : C.eP) (h : Rel w0 F0 X n ρ s a w) {o : Oper} {bD : fG} (cm : cr o.op = some bD) (ai : lU n o.dst = true) {K : al → Prop} {next : Act → World → Prop}
  (hw : ov C s bD fun av s1 => K (fin s1 o.dst av)) (bc : ∀ az cN aL, K az → Rel w0 F0 X n ρ az cN aL → next cN aL) : o.wp C.P a w next Q := by
 have pA := h
 obtain ⟨iV, d_, hI, F, S, aW⟩ := h
 have plain : ∀ av s1, bB C s bD = some (av, s1) → K (fin s1 o.dst av) → o.wp C.P a w next Q := by
  intro av s1 he ar
  obtain ⟨r, aL, v, bQ, aR, af, ag, aF, a_⟩ := KH (a := a) bp aW (fun _ => rfl) cm he
  unfold Oper.wp
  rw [af]
  rcases ag with rfl | ⟨rfl, rfl⟩
  ·exact bc _ _ _ ar (Rel.put iV d_ hI aF a_ ai)
  ·exact bc _ _ _ ar (Rel.put iV d_ hI aF a_ ai)
 cases bD with
 | shr bD => exact (TT cm).elim
 | oi T bR x y => exact (T1 cm).elim
 | call f args => exact Gb bp ⟨iV, d_, hI, F, S, aW⟩ cm ai (K := fun av s1 => K (fin s1 o.dst av)) hw (fun _ _ _ aR _ _ _ s1 _ _ ag _ aF a_ _ => ⟨s1, aR, ag, aF, a_⟩) bc
 | nc f args u x => exact (TU cm).elim
 | nd f args L => exact (TV cm).elim
 | kc T x => exact (TW cm).elim
 | nI x => exact (TX cm).elim
 | mj x => exact (TY cm).elim
 | _ =>
   obtain ⟨av, s1, he, ar⟩ := hw
   exact plain av s1 he ar
theorem lQ.share {F : Nat → Prop} {S : Nat → Nat → Prop} {aB : Nat → Value} {v : Value} (h : bM w0 F0 X F S s aB w) (aK : lQ w0 X F S s aB w av v) (a1 : av.tree = true) (bc : ∀ vs, av ≠ .tuple vs) :
  ∃ bQ, bM w0 F0 X bQ S s aB w ∧ lQ w0 X bQ S s aB w av.share v := by
 obtain ⟨Sn, gC, f_, hO, hP, mh, tE⟩ : ∃ Sn : Nat → Prop, dT av v ∧ ay w F av (cp v) Sn ∧ (∀ b, Sn b → b < w.heap.size) ∧ (∀ b, Sn b → ¬ F b) ∧ (∀ u b, Sn b → ¬ S u b) ∧ (∀ b, Sn b → X b ∨ w0.heap.size ≤ b) := by
  rcases aK with ⟨af, ag⟩ | ⟨_, ag, Sn, aF, a_, bI, cK, cH⟩
  ·rw [aI.cJ a1] at ag
   exact ⟨fun _ => False, ag.1, ag.2, fun _ h => h.elim, fun _ h => h.elim, fun _ _ h => h.elim, fun _ h => h.elim⟩
  ·exact ⟨Sn, ag, aF, a_, bI, cK, cH⟩
 refine ⟨fun b => F b ∨ Sn b, ?_, .inl ⟨FZ av, ?_⟩⟩
 ·exact {
   hs := fun b aa => .inl (h.hs b aa)
   hG := fun b aa => by
    rcases aa with aa | aa
    ·exact h.hG b aa
    ·exact .inr (tE b aa)
   fe := fun b aa => aa.elim (h.fe b) (hO b)
   eJ := h.eJ
   fY := fun t b aa bz => bz.elim (h.fY t b aa) (fun ab => mh t b ab aa)
   ff := h.ff
   dS := h.dS
   dp := fun t => aI.frame (fun _ _ => rfl) (fun b aa => .inl aa) (fun _ _ _ => rfl) h.dp _ _ _ (fun _ _ => rfl) (h.dp t)
   old := h.old
   size := h.size
   os := h.os
   tape := h.tape
   output := h.output }
 ·by_cases bJ : ∃ o, av = .ct o
  ·obtain ⟨o, rfl⟩ := bJ
   rw [I.share, aI]; trivial
  have Gd : av.share.tree = true := by cases av <;> first | exact a1 | rfl | exact (bJ ⟨_, rfl⟩).elim
  rw [aI.cJ Gd]
  exact ⟨F2 bc gC, ay.shared (fun b aa => .inl aa) av _ Sn (fun b aa => .inr aa) f_⟩
theorem T5 {op : Op} {T : TypeId} {x : aH} (h : cr op = some (.dj T x)) : ∃ a, op = .box T a ∧ dz a = some x := by
 cases op with
 | box yv a =>
   simp only [cr, Option.map_eq_some_iff, fG.dj.injEq] at h
   obtain ⟨y, hy, rfl, rfl⟩ := h
   exact ⟨a, rfl, hy⟩
 | _ =>
   exfalso
   unfold cr at h
   split at h <;> (try split at h) <;> (try split at h) <;> (try split at h) <;> (try simp [Option.map_eq_some_iff] at h) <;> contradiction
theorem T6 {aL : World} {F bQ : Nat → Prop} {s s1 : al} {aB : Nat → Value} (bG : ∀ b, F b → bQ b ∧ aL.heap[b]? = w.heap[b]?) : ∀ (n : Nat),
  (∀ (d : I) (v : Value) (S : Nat → Prop), SizeOf.sizeOf d ≤ n → d.hQ s = true → d.hQ s1 = true → aI w F s aB d v S → aI aL bQ s1 aB d v (fun _ => False)) ∧
  (∀ (ds : List I) (vs : List Value), SizeOf.sizeOf ds ≤ n → I.sf s ds = true → I.sf s1 ds = true → ef w F s aB ds vs → ef aL bQ s1 aB ds vs) := by
 intro n
 induction n with
 | zero =>
   refine ⟨fun d v S bS => ?_, fun ds vs bS => ?_⟩
   ·cases d <;> simp at bS <;> omega
   ·cases ds <;> simp at bS <;> omega
 | succ n ih =>
   refine ⟨fun d v S bS bt b0 h => ?_, fun ds vs bS bt b0 h => ?_⟩
   ·cases d with
    | hole => rw [aI]; trivial
    | h x q =>
      simp only [I.hQ, Bool.and_eq_true, List.isEmpty_iff] at bt b0
      obtain ⟨rfl, bt⟩ := bt
      rw [aI] at h ⊢
      obtain ⟨cM, a, fD, hr, h8⟩ := h (s x) (by simp only [I.sub]) (rf bt).1
      simp only [dn, Option.some.injEq, Prod.mk.injEq, true_and] at fD
      intro d ai _
      simp only [I.sub, Option.some.injEq] at ai
      subst ai
      exact ⟨cp (aB x), none, by simp only [dn], by rw [hr, ← fD.1], ((rf b0.2).2.2.2.2.2 _).2 (((rf bt).2.2.2.2.2 _).1 h8)⟩
    | aw x q => simp [I.hQ] at bt
    | aa x k =>
      simp only [I.hQ, Bool.not_eq_true'] at bt
      rw [aI] at h ⊢
      obtain ⟨b, cur, e, fr, af, ag, aF, a_⟩ := h bt
      exact fun _ => ⟨b, cur, e, fr, af, (bG b ag).1, (bG b ag).2.trans aF, a_⟩
    | fn f cap =>
      simp only [I.hQ] at bt b0
      rw [aI] at h ⊢
      obtain ⟨arr, rfl, ao⟩ := h
      exact ⟨arr, rfl, ih.2 _ _ (by simp at bS; omega) bt b0 ao⟩
    | _ =>
      simp only [I.hQ] at bt
      have bE := (aI.cJ rfl).1 h
      exact (aI.cJ rfl).2 ⟨bE.1, ay.mono (fun b aa => (bG b aa).1) _ _ _ _ (fun _ h => h) (ay.frame (fun b aa => (bG b aa).2) _ _ _ (fun _ h => h.elim) (ay.plain _ _ _ _ bt bE.2))⟩
   ·cases ds with
    | nil => rw [ef] at h ⊢; exact h
    | cons d ds =>
      simp only [I.sf, Bool.and_eq_true] at bt b0
      rw [ef] at h ⊢
      obtain ⟨v, j_, rfl, af, ag⟩ := h
      simp at bS
      exact ⟨v, j_, rfl, ih.1 _ _ _ (by omega) bt.1 b0.1 af, ih.2 _ _ (by omega) bt.2 b0.2 ag⟩
theorem T7 {s : al} {d : I} (h : d.hQ s = true) : d.plain = true := by
 cases d <;> first | rfl | (simpa [I.hQ] using h)
theorem bM.rj {F : Nat → Prop} {aB : Nat → Value} : ∀ (L : List (Nat × I)) (s : al) (S : Nat → Nat → Prop), bM w0 F0 X F S s aB w → (∀ p ∈ L, p.2.plain = true ∧ aI w F s aB p.2 (aB p.1) (fun _ => False)) →
  ∃ aR, bM w0 F0 X F aR (cY.rj s L) aB w ∧ ∀ u b, aR u b → S u b := by
 intro L
 induction L with
 | nil => intro s S h _; exact ⟨S, h, fun _ _ h => h⟩
 | cons p L ih =>
   intro s S h sg
   obtain ⟨af, ag⟩ := sg p (by simp)
   have ek : db aB p.1 (aB p.1) = aB := by funext u; simp only [db]; split <;> simp_all
   have aF := h.vn (t := p.1) af ag
   rw [ek] at aF
   have hA : ∀ x, x ≠ p.1 → (db s p.1 p.2 x).tree = true → db s p.1 p.2 x = s x ∧ aB x = aB x := fun x aq _ => ⟨jD _ _ aq, rfl⟩
   obtain ⟨aR, g1, g2⟩ := ih _ _ aF (fun q cG => ⟨(sg q (by simp [cG])).1, (aI.void (t := p.1) hA (by rw [me]; exact af) _).1 _ _ _ (Nat.le_refl _) (sg q (by simp [cG])).2⟩)
   refine ⟨aR, g1, fun u b aa => ?_⟩
   have := g2 u b aa
   simp only [fZ] at this
   split at this
   ·exact this.elim
   ·exact this
theorem Ge {s : al} : ∀ {L : List (Nat × I)}, qn s L = true → ∀ p ∈ L, p.2.hQ s = true
 | q :: L, af, p, aw => by
   simp only [qn, Bool.and_eq_true] at af
   rcases List.mem_cons.1 aw with rfl | aw
   ·exact af.1
   ·exact Ge af.2 p aw
theorem T8 {s : al} {us : List Nat} {p : Nat × I} (h : p ∈ mL s us) : p.1 ∈ us ∧ s p.1 = p.2 := by
 obtain ⟨u, hu, rfl⟩ := List.mem_map.1 h
 exact ⟨hu, rfl⟩
theorem T9 (bp : C.eP) (h : Rel w0 F0 X n ρ s a w) {o : Oper} {bD : fG} (cm : pz o.op = bD.base) (ai : lU n o.dst = true) {K : al → Prop} {next : Act → World → Prop}
  (hw : ov C s bD fun av s1 => K (fin s1 o.dst av)) (bc : ∀ az cN aL, K az → Rel w0 F0 X n ρ az cN aL → next cN aL) : o.wp C.P a w next Q := by
 cases bD with
 | shr bD =>
   obtain ⟨av, s1, he, a1, ng, ar⟩ := hw
   rcases nL cm with cm | cm
   ·change bD = .bad at cm
    subst cm; cases he
   obtain ⟨iV, d_, hI, F, S, aW⟩ := h
   obtain ⟨r, aL, v, bQ, aR, af, ag, aF, a_⟩ := KH (a := a) bp aW (fun _ => rfl) cm he
   obtain ⟨ri, g3, g4⟩ := lQ.share aF a_ a1 ng
   unfold Oper.wp
   rw [af]
   rcases ag with rfl | ⟨rfl, rfl⟩
   ·exact bc _ _ _ ar (Rel.put iV d_ hI g3 g4 ai)
   ·exact bc _ _ _ ar (Rel.put iV d_ hI g3 g4 ai)
 | bad => obtain ⟨av, s1, he, _⟩ := hw; cases he
 | nc f args u x =>
   obtain ⟨aN, aZ, hw⟩ := hw
   rcases nL cm with aa | aa
   ·cases aa
   ·refine Gb bp h aa ai hw ?_ bc
    rintro F S bQ aR w aL av s1 v gC ⟨f_, hO, hP⟩ mh tE yy _
    have AY := gC.dp u
    rw [aN, aI] at AY
    obtain ⟨cM, a0, fD, hr, h8⟩ := AY (s x) (by simp only [I.sub]) (rf aZ).1
    simp only [dn, Option.some.injEq, Prod.mk.injEq, true_and] at fD
    have T_ : ∀ y b, fZ aR u (fun _ => False) y b → aR y b := by
     intro y b aa
     simp only [fZ] at aa
     split at aa
     ·exact aa.elim
     ·exact aa
    exact ⟨_, _, hP, tE.alias f_ hO (by rw [hr, ← fD.1]) (((rf aZ).2.2.2.2.2 _).1 h8), yy.less T_ mh⟩
 | nd f args L =>
   obtain ⟨aZ, hw⟩ := hw
   rcases nL cm with aa | aa
   ·cases aa
   ·refine Gb bp h aa ai hw ?_ bc
    rintro F S bQ aR w aL av s1 v gC ⟨f_, hP⟩ mh tE yy Ua
    obtain ⟨dB, g1, g2⟩ := tE.rj (mL s L) s1 aR (fun p aw => by
     have dR := (T8 aw).2
     have br := Ge aZ p aw
     have dQ := Ge f_ p aw
     refine ⟨T7 br, (T6 Ua _).1 _ _ (S p.1) (Nat.le_refl _) br dQ ?_⟩
     have := gC.dp p.1
     rw [dR] at this
     exact this)
    exact ⟨_, dB, hP, g1, yy.less g2 mh⟩
 | kc T x =>
   obtain ⟨av, s1, he, ar⟩ := hw
   rcases nL cm with aa | aa
   ·cases aa
   ·obtain ⟨cA, pB, aq⟩ := T5 aa
    obtain ⟨iV, d_, hI, F, S, aW⟩ := h
    obtain ⟨dst, op, ty, pos, after, guard⟩ := o
    simp only at pB ai ar
    subst pB
    obtain ⟨r, aL, v, bQ, aR, af, ag, aF, a_⟩ : Next C w0 F0 X (fun t => a.tmps.getD t undef) w (execOp a.eval ⟨dst, .box T cA, ty, pos, after, guard⟩) av s1 := (R7 (T := T) aW (fg aW (fun _ => rfl) aq).2 he).next
    unfold Oper.wp
    rw [af]
    rcases ag with rfl | ⟨rfl, rfl⟩
    ·exact bc _ _ _ ar (Rel.put iV d_ hI aF a_ ai)
    ·exact bc _ _ _ ar (Rel.put iV d_ hI aF a_ ai)
 | mj x =>
   obtain ⟨av, s1, he, ar⟩ := hw
   rcases nL cm with aa | aa
   ·cases aa
   ·obtain ⟨cA, pB, aq⟩ := TZ aa
    obtain ⟨iV, d_, hI, F, S, aW⟩ := h
    obtain ⟨dst, op, ty, pos, after, guard⟩ := o
    simp only at pB ai ar
    subst pB
    simp only [bB] at he
    obtain ⟨g1, g2⟩ := fg aW (fun _ => rfl) aq
    obtain ⟨r, aL, v, bQ, aR, af, ag, aF, a_⟩ : Next C w0 F0 X (fun t => a.tmps.getD t undef) w (execOp a.eval ⟨dst, .move cA, ty, pos, after, guard⟩) av s1 := by
     unfold qg at he
     split at he
     ·rename_i y q hy
      rw [hy] at g1 g2
      obtain ⟨cc, k0, bt, b0, Sn, dK, de, dI, dX, jh, _⟩ := pd aW g1 g2 he
      exact ⟨_, w, _, F, cc, rfl, .inl rfl, k0, .inr ⟨bt, b0, Sn, dK, de, dI, dX, jh⟩⟩
     ·simp only [Option.some.injEq, Prod.mk.injEq] at he
      obtain ⟨rfl, rfl⟩ := he
      exact ⟨_, w, _, F, S, rfl, .inl rfl, aW, .inl ⟨g1, g2⟩⟩
    unfold Oper.wp
    rw [af]
    rcases ag with rfl | ⟨rfl, rfl⟩
    ·exact bc _ _ _ ar (Rel.put iV d_ hI aF a_ ai)
    ·exact bc _ _ _ ar (Rel.put iV d_ hI aF a_ ai)
 | nI x =>
   obtain ⟨av, s1, he, ar⟩ := hw
   rcases nL cm with aa | aa
   ·cases aa
   ·obtain ⟨cA, pB, aq⟩ := T0 aa
    obtain ⟨iV, d_, hI, F, S, aW⟩ := h
    obtain ⟨dst, op, ty, pos, after, guard⟩ := o
    simp only at pB ai ar
    subst pB
    simp only [bB, Option.some.injEq, Prod.mk.injEq] at he
    obtain ⟨rfl, rfl⟩ := he
    obtain ⟨g1, g2⟩ := fg aW (fun _ => rfl) aq
    obtain ⟨r, aL, v, bQ, aR, af, ag, aF, a_⟩ : Next C w0 F0 X (fun t => a.tmps.getD t undef) w (execOp a.eval ⟨dst, .assign cA, ty, pos, after, guard⟩) (aJ s x) s := ⟨_, w, _, F, S, rfl, .inl rfl, aW, .inl ⟨g1, g2⟩⟩
    unfold Oper.wp
    rw [af]
    rcases ag with rfl | ⟨rfl, rfl⟩
    ·exact bc _ _ _ ar (Rel.put iV d_ hI aF a_ ai)
    ·exact bc _ _ _ ar (Rel.put iV d_ hI aF a_ ai)
 | oi T bR x y =>
   obtain ⟨av, s1, he, ar⟩ := hw
   rcases nL cm with aa | aa
   ·cases aa
   ·obtain ⟨cA, kH, pB, aq, hy⟩ := T2 aa
    obtain ⟨iV, d_, hI, F, S, aW⟩ := h
    simp only [bB, Option.map_eq_some_iff, Prod.mk.injEq] at he
    obtain ⟨d, hF, rfl, rfl⟩ := he
    obtain ⟨v, aL, bQ, aR, af, ag, aF⟩ := SZ (ty := o.type) bp aW (fg aW (fun _ => rfl) aq).2 (fg aW (fun _ => rfl) hy).2 hF
    have tD : execOp a.eval o = (do pure (.value (← Builtin.append_ #[T, bR] o.type #[a.eval cA, a.eval kH]))) := by
     obtain ⟨dst, op, ty, pos, after, guard⟩ := o
     simp only at pB
     subst pB
     simp [execOp, resolve, invoke, builtin]
    unfold Oper.wp
    rw [tD]
    simp only [Sem.run_bind, af, Result.andThen]
    exact bc _ _ _ ar (Rel.put iV d_ hI ag aF ai)
 | _ =>
   rcases nL cm with aa | aa
   ·cases aa
   ·exact T4 bp h aa ai hw bc
end
end Go.cY
