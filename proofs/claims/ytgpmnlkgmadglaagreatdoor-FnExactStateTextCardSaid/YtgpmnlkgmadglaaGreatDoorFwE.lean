/- Part of a proof that a law returns true for every input. No condition. -/
import Derived.Test.YtgpmnlkgmadglaaGreatDoorFwD
import Derived.Laws.Tables
namespace Go.c0
section
variable {C : ck} {w0 w : World} {F0 X F : Nat → Prop} {S : Nat → Nat → Prop} {s s1 : ao} {aB : Nat → Value} {av : I}
theorem yP (z : List Value) : ∀ n, (List.range (n * z.length)).map (fun i => z[i % z.length]!) = (List.replicate n z).flatten
 | 0 => by simp
 | n + 1 => by
   rw [Nat.add_mul, Nat.one_mul, List.range_add, List.map_append, yP z n, List.replicate_succ', List.flatten_append]
   congr 1
   simp only [List.map_map, List.flatten_cons, List.flatten_nil, List.append_nil]
   apply List.ext_getElem
   ·simp
   ·intro i ag ah
    have al : i < z.length := ah
    simp [Nat.mod_eq_of_lt al, al]
theorem a8.replicate {d : I} {cs : List Value} (h : ∀ aT, au w F d cs aT) : ∀ n aT, a8 w F (List.replicate n d) (List.replicate n cs).flatten aT
 | 0, aT => by simp only [List.replicate_zero, List.flatten_nil]; rw [a8]
 | n + 1, aT => by
   rw [List.replicate_succ, List.replicate_succ, List.flatten_cons, a8]
   exact ⟨cs, _, fun _ => False, fun _ => False, rfl, h _, a8.replicate h n _, fun _ h => h.elim, fun _ h => h.elim, fun _ h => h.elim⟩
def er (C : ck) (T : TypeId) (l c : I) : Option I :=
 match (C.T T).k, l, c with
 | .slice e, .int .i64 n, .int .i64 m => if n = m ∧ 0 ≤ n ∧ (C.T e).ok = true ∧ (C.T e).zero.wd = (C.T e).sz ∧ (flat (C.T e).zero).isSome = true ∧ (C.T e).sz ≠ 0 ∧ (C.T e).bytes * n ≤ 140737488355328 ∧ n ≤ 9223372036854775807 then
   some (.aP (C.T e).sz (List.replicate n.toNat (C.T e).zero)) else none
 | _, _, _ => none
theorem PO (bl : C.e0) (h : bP w0 F0 X F S s aB w) {T : TypeId} {l c : I} {HB HC : Value} (aR : aG w F s aB l HB (fun _ => False)) (aw : aG w F s aB c HC (fun _ => False)) (he : er C T l c = some av) :
  Good C w0 F0 X aB w (Instr.makeSlice T HB HC) av s := by
 unfold er at he
 split at he
 ·rename_i e n m az
  have := nY aR; subst this
  have := nY aw; subst this
  obtain ⟨C4, d, C5, aS, aX, aQ, ca, cR, bZ, bS⟩ := bl.info (gk az (by simp))
  rw [az] at bS
  have := kY bS; subst this
  split at he
  ·rename_i ru
   obtain ⟨rfl, aY, n1, oW, pD, eH, HD, C8⟩ := ru
   simp only [Option.some.injEq] at he; subst he
   obtain ⟨i, C6, z, f1, f2, f3, f4, f5, f6, f7⟩ := bl.info n1
   obtain ⟨fc, lo⟩ := Option.isSome_iff_exists.1 pD
   have pE := f5 fc lo
   have hk : ∀ aT, au w F (C.T e).zero fc aT := fun aT => (au.flat _).1 _ fc aT (Nat.le_refl _) lo
   have n3 : fc.length = (C.T e).sz := by rw [au.length _ _ _ (hk (fun _ => False)), oW]
   obtain ⟨n, rfl⟩ := Int.eq_ofNat_of_zero_le aY
   simp only [Int.toNat_natCast]
   have tq : IntKind.i64.wrap (n : Int) = n := by
    rw [IntKind.wrap_i64]; omega
   have tn : ∀ k (w : World), (askRoom k).run C.P w = .ok () w := by
    intro k w
    unfold askRoom
    split <;> rfl
   have nX : ((Array.range (n * (C.T e).sz)).map (fc.toArray[· % fc.toArray.size]!)).toList = (List.replicate n fc).flatten := by
    have := yP fc n
    rw [n3] at this
    simpa [n3] using this
   have fa : ¬ (281474976710656 < (i.bytes : Int) * n) := by
    rw [f3]; omega
   have yQ : ¬ ((n : Int) < 0) := by omega
   have run : (Instr.makeSlice T (.int .i64 n) (.int .i64 n)).run C.P w = .ok (.slice (some ⟨w.heap.size, 0, none⟩) n n)
     (w.alloc (.cells (if n * (C.T e).sz = 0 then (Array.range (n * (C.T e).sz)).map (fun _ => default) else (Array.range (n * (C.T e).sz)).map (fc.toArray[· % fc.toArray.size]!)) e)) := by
    by_cases bc : n * (C.T e).sz = 0
    ·simp [Instr.makeSlice, run_underlying bZ, asInt, asIntOf, rp f1, tq, fa, yQ, tn, jX f1, f2, bc, newRow]
    ·simp only [bc, if_false]
     simp [Instr.makeSlice, run_underlying bZ, asInt, asIntOf, rp f1, tq, fa, yQ, tn, jX f1, f2, bc, newRow, te f1 f4, pE]
   have kT : (if n * (C.T e).sz = 0 then (Array.range (n * (C.T e).sz)).map (fun _ => (default : Value)) else (Array.range (n * (C.T e).sz)).map (fc.toArray[· % fc.toArray.size]!)).toList = (List.replicate n fc).flatten := by
    split
    ·rename_i bc
     have : n = 0 := by
      rcases Nat.mul_eq_zero.1 bc with h | h
      ·exact h
      ·exact (eH h).elim
     subst this
     simp
    ·exact nX
   generalize rF : (if n * (C.T e).sz = 0 then (Array.range (n * (C.T e).sz)).map (fun _ => (default : Value)) else (Array.range (n * (C.T e).sz)).map (fc.toArray[· % fc.toArray.size]!)) = cur at run kT
   have jn : (List.replicate n fc).flatten.length = n * (C.T e).sz := by simp [n3]
   have hj : cur.size = n * (C.T e).sz := by
    have : cur.size = cur.toList.length := by simp
    rw [this, kT, jn]
   have ka := h.vE (aL := w.alloc (.cells cur e)) (sz := (C.T e).sz) (cap := n) (xs := List.replicate n (C.T e).zero) (cur := cur) (e := e) (fr := (0, 0)) (Sn := fun _ => False) rfl rfl rfl rfl
    (fun o _ ⟨_, ah⟩ => absurd ah (Nat.not_lt_zero _)) (by simp) (by unfold maxLen; omega) hj (by intro d ai; rw [List.eq_of_mem_replicate ai]; exact oW)
    (by rw [kT, List.length_replicate, List.take_of_length_le (by rw [jn]; exact Nat.le_refl _)]; exact a8.replicate hk n _) (fun _ h => h.elim) (fun _ h => h.elim) (fun _ _ h => h.elim) (fun _ h => h.elim)
   rw [List.length_replicate] at ka
   exact ⟨_, _, F, S, run, ka.1, ka.2⟩
  ·cases he
 ·cases he
def ni (C : ck) (T bF : TypeId) (x y : I) : Option I :=
 match (C.T T).k, (C.T bF).k, x, y with
 | .slice e, .int _, .bp, .int .i64 n => if 0 ≤ n ∧ (C.T e).ok = true ∧ (C.T e).zero.wd = (C.T e).sz ∧ (flat (C.T e).zero).isSome = true ∧ (C.T e).sz ≠ 0 ∧ (C.T e).bytes * n ≤ 140737488355328 ∧ n ≤ 9223372036854775807 then
   some (.aP (C.T e).sz (List.replicate n.toNat (C.T e).zero)) else none
 | _, _, _, _ => none
theorem PQ {P : Program} {T bF ty e : TypeId} {k : IntKind} {i : TypeInfo} {z : Value} (bb : P.underlying T = some (.slice e)) (hu : P.underlying bF = some (.int k)) (al : P.info? e = some i) (b6 : i.zero = some z)
  (n : Nat) (bc : n ≠ 0) (ad : i.size ≠ 0) (aY : n ≤ 9223372036854775807) (ab : n * i.bytes ≤ 140737488355328) :
  (Builtin.append_ #[T, bF] ty #[.slice none 0 0, .int .i64 n]).run P w = .ok (.slice (some ⟨w.heap.size, 0, none⟩) n (grownCap w n 0 e))
   (w.drew.alloc (.cells (Builtin.zeroCells z.cells n ++ Builtin.zeroCells z.cells (grownCap w n 0 e - n)) e)) := by
 have tq : IntKind.i64.wrap (n : Int) = n := by rw [IntKind.wrap_i64]; omega
 have yQ : ¬ ((n : Int) < 0) := by omega
 have hmul : (n : Int) * (i.bytes : Int) = ((n * i.bytes : Nat) : Int) := by simp
 have fa : ¬ (281474976710656 < (n : Int) * (i.bytes : Int)) := by rw [hmul]; omega
 have ig : ¬ (281474976710656 < Builtin.nextslicecap n 0 * i.bytes) := by
  have : Builtin.nextslicecap n 0 = n := by unfold Builtin.nextslicecap; rw [if_pos (by omega)]
  rw [this]; omega
 have tn : ∀ k (w : World), (askRoom k).run P w = .ok () w := by
  intro k w
  unfold askRoom
  split <;> rfl
 have C1 : ¬ (9223372036854775807 < (n : Int)) := by omega
 have C_ : n * i.size ≠ 0 := Nat.mul_ne_zero bc ad
 simp [Builtin.append_, run_underlying bb, run_underlying hu, jX al, rp al, asInt, asIntOf, tq, yQ, fa, ig, bc, Question.forced, tn, C1, te al b6, newRow, grownCap, Builtin.firstCells]
 intro jW; exact (C_ jW).elim
theorem PR (bl : C.e0) (h : bP w0 F0 X F S s aB w) {T bF ty : TypeId} {x y : I} {jo iR : Value} (aq : aG w F s aB x jo (fun _ => False)) (bt : aG w F s aB y iR (fun _ => False)) (he : ni C T bF x y = some av) :
  Good C w0 F0 X aB w (Builtin.append_ #[T, bF] ty #[jo, iR]) av s := by
 unfold ni at he
 split at he
 ·rename_i e awC n az HE
  have := pA aq; subst this
  have := nY bt; subst this
  obtain ⟨C4, d, C5, aS, aX, aQ, ca, cR, bZ, bS⟩ := bl.info (gk az (by simp))
  rw [az] at bS
  have := kY bS; subst this
  obtain ⟨awD, awE, awF, qu, yR, Da, vM, awG, vN, HF⟩ := bl.info (gk HE (by simp))
  rw [HE] at HF
  have := vr HF; subst this
  split at he
  ·rename_i ru
   obtain ⟨aY, n1, oW, pD, eH, HD, C8⟩ := ru
   simp only [Option.some.injEq] at he; subst he
   obtain ⟨i, C6, z, f1, f2, f3, f4, f5, f6, f7⟩ := bl.info n1
   obtain ⟨fc, lo⟩ := Option.isSome_iff_exists.1 pD
   have pE := f5 fc lo
   have hk : ∀ aT, au w F (C.T e).zero fc aT := fun aT => (au.flat _).1 _ fc aT (Nat.le_refl _) lo
   have n3 : fc.length = (C.T e).sz := by rw [au.length _ _ _ (hk (fun _ => False)), oW]
   obtain ⟨n, rfl⟩ := Int.eq_ofNat_of_zero_le aY
   simp only [Int.toNat_natCast]
   by_cases bc : n = 0
   ·subst bc
    have run : (Builtin.append_ #[T, bF] ty #[.slice none 0 0, .int .i64 ((0 : Nat) : Int)]).run C.P w = .ok (.slice none 0 0) w := by
     have tq : IntKind.i64.wrap 0 = 0 := by decide
     simp [Builtin.append_, run_underlying bZ, run_underlying vN, jX f1, rp f1, asInt, asIntOf, tq]
    exact ⟨_, w, F, S, run, h, .inr ⟨rfl, rfl, fun _ => False, by simp only [cr, iy]; rw [au]; exact .inl ⟨rfl, _, rfl⟩, fun _ h => h.elim, fun _ h => h.elim, fun _ _ h => h.elim, fun _ h => h.elim⟩⟩
   ·have run := PQ (w := w) (ty := ty) bZ vN f1 f4 n bc (by rw [f2]; exact eH) (by omega) (by
     rw [f3]
     have : ((C.T e).bytes : Int) * (n : Int) = (((C.T e).bytes * n : Nat) : Int) := by simp
     rw [this] at HD
     rw [Nat.mul_comm]; omega)
    rw [pE] at run
    have vH := grownCap_ge w n 0 e
    have vI := grownCap_le_maxLen w n 0 e (by unfold maxLen; omega)
    have HG : ∀ m, (Builtin.zeroCells fc.toArray m).toList = (List.replicate m fc).flatten := by
     intro m
     have := yP fc m
     unfold Builtin.zeroCells
     simpa [n3] using this
    have jn : ∀ m, (List.replicate m fc).flatten.length = m * (C.T e).sz := by intro m; simp [n3]
    generalize rF : Builtin.zeroCells fc.toArray n ++ Builtin.zeroCells fc.toArray (grownCap w n 0 e - n) = cur at run
    have kT : cur.toList = (List.replicate n fc).flatten ++ (List.replicate (grownCap w n 0 e - n) fc).flatten := by rw [← rF, Array.toList_append, HG, HG]
    have hj : cur.size = grownCap w n 0 e * (C.T e).sz := by
     have : cur.size = cur.toList.length := by simp
     rw [this, kT, List.length_append, jn, jn, ← Nat.add_mul]
     congr 1; omega
    have ka := h.vE (aL := w.drew.alloc (.cells cur e)) (sz := (C.T e).sz) (cap := grownCap w n 0 e) (xs := List.replicate n (C.T e).zero) (cur := cur) (e := e) (fr := (0, 0)) (Sn := fun _ => False) rfl rfl rfl rfl
     (fun o _ ⟨_, ah⟩ => absurd ah (Nat.not_lt_zero _)) (by simpa using vH) vI hj (by intro d ai; rw [List.eq_of_mem_replicate ai]; exact oW)
     (by rw [kT, List.length_replicate, List.take_left' (jn n)]; exact a8.replicate hk n _) (fun _ h => h.elim) (fun _ h => h.elim) (fun _ _ h => h.elim) (fun _ h => h.elim)
    rw [List.length_replicate] at ka
    exact ⟨_, _, F, S, run, ka.1, ka.2⟩
  ·cases he
 ·cases he
def il (s : ao) (f : FuncId) (cs : List aF) : Option I := some (.fn f (cs.map (aK s)))
theorem yS {a : Act} (h : bP w0 F0 X F S s aB w) (eJ : ∀ t, aB t = a.tmps.getD t undef) : ∀ (os : List Operand) (xs : List aF), os.map dH = xs.map some → ei w F s aB (xs.map (aK s)) (os.map a.eval)
 | [], [], _ => by simp only [List.map_nil]; rw [ei]
 | [], x :: xs, h => by simp at h
 | o :: os, [], h => by simp at h
 | o :: os, x :: xs, bx => by
   simp only [List.map_cons, List.cons.injEq] at bx ⊢
   rw [ei]
   exact ⟨_, _, rfl, (fL h eJ bx.1).2, yS h eJ os xs bx.2⟩
theorem HH : ∀ (vs : List Value) (k off : Nat) (A : Array Value) (l m r : List Value), A.toList = l ++ (m ++ r) → l.length = off + k → m.length = vs.length →
  ((vs.zipIdx k).foldl (fun cs (x : Value × Nat) => cs.setIfInBounds (off + x.2) x.1) A).toList = l ++ (vs ++ r)
 | [], k, off, A, l, m, r, i6, aR, hm => by
   have : m = [] := by simpa using hm
   subst this
   simpa using i6
 | v :: vs, k, off, A, l, m, r, i6, aR, hm => by
   obtain ⟨x, m, rfl⟩ : ∃ x ij, m = x :: ij := by
    cases m with
    | nil => simp at hm
    | cons x m => exact ⟨x, m, rfl⟩
   rw [List.zipIdx_cons, List.foldl_cons]
   have := HH vs (k + 1) off (A.setIfInBounds (off + k) v) (l ++ [v]) m r (by
    rw [Array.toList_setIfInBounds, i6, ← aR, List.set_append_right _ _ (Nat.le_refl _)]
    simp) (by simp; omega) (by simpa using hm)
   simpa using this
def nj (os : List (Option Nat)) (a : I) : I := os.foldl (fun a o => kG o a) a
def eU (place : Nat → Option (Nat × Nat)) : ao → List I → List (Option Nat) → List (Nat × I) → Option (List I × ao)
 | s, gY, _, [] => some (gY, s)
 | s, gY, os, (k, a) :: r => match cT s (nj os a), place k, gY[k]? with
   | some (d, s1), some (off, n), some z => match d with
     | .tuple _ => none
     | d => if d.wd = n ∧ z.wd = n ∧ I.ek (gY.take k) = off then eU place s1 (gY.set k d) (os ++ [(nj os a).owner]) r else none
   | _, _, _ => none
def nk (w : World) (F : Nat → Prop) (s : ao) (aB : Nat → Value) : List (Nat × I) → List (Nat × Value) → Prop
 | [], [] => True
 | (k, a) :: r, (db, v) :: hN => k = db ∧ a.plain = true ∧ aG w F s aB a v (fun _ => False) ∧ nk w F s aB r hN
 | _, _ => False
theorem PS (x : Nat) : ∀ d : I, d.plain = true → (cd x d).plain = true
 | .h y q, _ => by simp only [cd]; split <;> (try split) <;> rfl
 | .ar y q, _ => by simp only [cd]; split <;> rfl
 | .ab y q, _ => rfl
 | .fn f c, _ => by simp only [cd]; rfl
 | .hole, h => h
 | .bool _, h => h
 | .e_, h => h
 | .int _ _, h => h
 | .str _, h => h
 | .dv, h => h
 | .bp, h => h
 | .slice _, h => h
 | .aP _ _, h => h
 | .ref _, h => h
 | .a7 _, h => h
 | .agg _, h => h
 | .tuple _, h => h
theorem PT (o : Option Nat) (d : I) (h : d.plain = true) : (kG o d).plain = true := by
 cases o with
 | none => exact h
 | some x => exact PS x d h
theorem nk.cd {w : World} {F : Nat → Prop} {s s1 : ao} {aB : Nat → Value} {o : Option Nat} (ar : ∀ (bz : I) (gj : Value) (aT : Nat → Prop), aG w F s aB bz gj aT → aG w F s1 aB (kG o bz) gj aT) :
  ∀ (r : List (Nat × I)) (hN : List (Nat × Value)), nk w F s aB r hN → nk w F s1 aB (r.map fun p => (p.1, kG o p.2)) hN
 | [], [], _ => trivial
 | (k, a) :: r, (db, v) :: hN, h => by
   obtain ⟨ag, ah, aI, a_⟩ := h
   exact ⟨ag, PT _ _ ah, ar _ _ _ aI, nk.cd ar r hN a_⟩
 | [], _ :: _, h => h.elim
 | _ :: _, [], h => h.elim
theorem Db {place : Nat → Option (Nat × Nat)} : ∀ (ps : List (Nat × I)) (vs : List (Nat × Value)) (os : List (Option Nat)) (s : ao) (S : Nat → Nat → Prop) (gY : List I) (A : Array Value) (hK : Nat → Prop),
  bP w0 F0 X F S s aB w → nk w F s aB (ps.map fun p => (p.1, nj os p.2)) vs → a8 w F gY A.toList hK → (∀ b, hK b → b < w.heap.size) → (∀ b, hK b → ¬ F b) → (∀ u b, hK b → ¬ S u b) → (∀ b, hK b → X b ∨ w0.heap.size ≤ b) →
  ∀ ds s1, eU place s gY os ps = some (ds, s1) → ∃ lM b5 gP, Instr.fill place A vs = some lM ∧ bP w0 F0 X F b5 s1 aB w ∧ a8 w F ds lM.toList gP ∧ (∀ b, gP b → b < w.heap.size) ∧ (∀ b, gP b → ¬ F b) ∧ (∀ u b, gP b → ¬ b5 u b) ∧
    (∀ b, gP b → X b ∨ w0.heap.size ≤ b) ∧ ds.length = gY.length ∧ I.ek ds = I.ek gY ∧ (∀ n, (∀ d ∈ gY, d.wd = n) → ∀ d ∈ ds, d.wd = n)
 | [], [], os, s, S, gY, A, hK, h, _, ag, ah, aI, a_, bN, ds, s1, he => by
   simp only [eU, Option.some.injEq, Prod.mk.injEq] at he
   obtain ⟨rfl, rfl⟩ := he
   exact ⟨A, S, hK, rfl, h, ag, ah, aI, a_, bN, rfl, rfl, fun _ h => h⟩
 | (k, a) :: ps, (db, v) :: vs, os, s, S, gY, A, hK, h, ar, ag, ah, aI, a_, bN, ds, s1, he => by
   obtain ⟨rfl, kJ, nT, vO⟩ := ar
   simp only [eU] at he
   split at he
   ·rename_i d tr off n z bb fT b6
    have key : ∀ d : I, (∀ ax, d ≠ .tuple ax) → cT s (nj os a) = some (d, tr) → (if d.wd = n ∧ z.wd = n ∧ I.ek (gY.take k) = off then eU place tr (gY.set k d) (os ++ [(nj os a).owner]) ps else none) = some (ds, s1) →
      ∃ lM b5 gP, Instr.fill place A ((k, v) :: vs) = some lM ∧ bP w0 F0 X F b5 s1 aB w ∧ a8 w F ds lM.toList gP ∧ (∀ b, gP b → b < w.heap.size) ∧ (∀ b, gP b → ¬ F b) ∧ (∀ u b, gP b → ¬ b5 u b) ∧
      (∀ b, gP b → X b ∨ w0.heap.size ≤ b) ∧ ds.length = gY.length ∧ I.ek ds = I.ek gY ∧ (∀ n, (∀ d ∈ gY, d.wd = n) → ∀ d ∈ ds, d.wd = n) := by
     intro d pz bb he
     split at he
     ·rename_i aw
      obtain ⟨mD, l9, HI⟩ := aw
      obtain ⟨b5, g0, g1, g2, Sn, g3, g4, g5, g6, g7, g8, g9, g10⟩ := oO h kJ nT bb
      obtain ⟨cy, fS, cu, Sx, h2, i6, hL, fp, gW, h3, gf, lC⟩ := a8.pick gY _ _ k z ag b6
      have nX := vv g2 pz
      have pF := au.length _ _ _ g3
      have HJ := au.length _ _ _ gf
      have qo := lC w d (cr v) Sn (fun _ _ => rfl) (fun _ _ => rfl) g3 (fun b PU PV => by obtain ⟨u, hu⟩ := g9 b PU; exact a_ u b (fp b PV) hu)
      have HK := HH (cr v) 0 off A cy fS cu i6 (by rw [hL, HI]; rfl) (by rw [HJ, pF, mD, l9])
      generalize vP : ((cr v).zipIdx 0).foldl (fun cs (x : Value × Nat) => cs.setIfInBounds (off + x.2) x.1) A = yH at HK
      obtain ⟨lM, dG, gP, m1, m2, m3, m4, m5, m6, m7, m8, m9, m10⟩ := Db (place := place) ps vs (os ++ [(nj os a).owner]) tr b5 (gY.set k d) yH (fun b => Sx b ∨ Sn b) g0 (by have := nk.cd g10 _ _ vO; simpa [nj, List.foldl_append, Function.comp_def] using this) (by rw [HK]; exact qo)
       (by rintro b (ab | ab); exact ah b (fp b ab); exact g4 b ab) (by rintro b (ab | ab); exact aI b (fp b ab); exact g5 b ab)
       (by rintro u b (ab | ab); exact fun hu => a_ u b (fp b ab) (g8 u b hu); exact g6 u b ab) (by rintro b (ab | ab); exact bN b (fp b ab); exact g7 b ab) ds s1 he
      refine ⟨lM, dG, gP, ?_, m2, m3, m4, m5, m6, m7, by rw [m8]; simp, by rw [m9]; exact Ct _ _ _ _ b6 (by rw [mD, l9]), ?_⟩
      ·have Dc : off + n ≤ A.size := by
        have : A.size = A.toList.length := by simp
        rw [this, i6]; simp [hL, HI, HJ, l9]
       simp only [Instr.fill, fT, nX, List.size_toArray, pF, mD]
       have mX : ¬ (n ≠ n ∨ A.size < off + n) := by omega
       have PW : (cr v).toArray.zipIdx.foldl (fun cs (x : Value × Nat) => cs.setIfInBounds (off + x.2) x.1) A = yH := by
        rw [← vP, ← Array.foldl_toList]; simp
       simp only [ne_eq, not_true_eq_false, decide_false, Bool.false_or, decide_eq_true_eq, gt_iff_lt]
       rw [if_neg (by simp; omega)]
       rw [show (cr v).toArray.zipIdx.foldl (fun cs x => match x with | (c, j) => cs.setIfInBounds (off + j) c) A = yH from PW]
       exact m1
      ·intro Dd vQ
       refine m10 Dd (Cu vQ ?_)
       rw [mD, ← l9]; exact vQ z (List.mem_of_getElem? b6)
     ·cases he
    split at he
    ·cases he
    ·rename_i pz
     exact key _ (fun ax e => pz ax e) bb he
   ·cases he
 | [], _ :: _, _, _, _, _, _, _, _, ar, _, _, _, _, _, _, _, _ => ar.elim
 | _ :: _, [], _, _, _, _, _, _, _, ar, _, _, _, _, _, _, _, _ => ar.elim
def fM (C : ck) (s : ao) (T : TypeId) (ps : List (Nat × I)) : Option (I × ao) :=
 match (C.T T).k, (C.T T).zero with
 | .struct ax, .agg gY => if (flat (.agg gY)).isSome = true ∧ (∀ f ∈ ax, (C.T f.1).ok = true) then
   (match eU (fun k => (ax[k]?).map fun f => (f.2, (C.T f.1).sz)) s gY [] ps with
   | some (ds, s1) => some (.agg ds, s1)
   | none => none) else none
 | _, _ => none
def eD (C : ck) (s : ao) (T : TypeId) (n : Nat) (ps : List (Nat × I)) : Option (I × ao) :=
 match (C.T T).k with
 | .slice e => if (C.T e).ok = true ∧ (C.T e).zero.wd = (C.T e).sz ∧ (flat (C.T e).zero).isSome = true ∧ (C.T e).sz ≠ 0 ∧ n * (C.T e).sz ≤ 16777216 then
   (match eU (fun k => some (k * (C.T e).sz, (C.T e).sz)) s (List.replicate n (C.T e).zero) [] ps with
   | some (ds, s1) => some (.aP (C.T e).sz ds, s1)
   | none => none) else none
 | _ => none
theorem PX (bl : C.e0) : ∀ (gs : List Field), (∀ g ∈ gs, (C.T g.type).ok = true) →
  gs.mapM (fun f => (C.P.info? f.type).map fun i => (f.offset, i.size)) = some (gs.map fun g => (g.offset, (C.T g.type).sz)) := by
 intro gs
 induction gs with
 | nil => intro _; simp
 | cons g gs ih =>
   intro bT
   obtain ⟨i, d, z, f1, f2, f3, f4, f5, f6, f7⟩ := bl.info (bT g (by simp))
   have := ih (fun g hO => bT g (by simp [hO]))
   simp [List.mapM_cons, f1, f2, this]
theorem PY (bl : C.e0) (h : bP w0 F0 X F S s aB w) {T : TypeId} {ps : List (Nat × I)} {vs : List (Nat × Value)} (ar : nk w F s aB ps vs) (he : fM C s T ps = some (av, s1)) :
  Good C w0 F0 X aB w (Instr.build T vs.toArray) av s1 := by
 unfold fM at he
 split at he
 ·rename_i ax gY az b6
  split at he
  ·rename_i aw
   obtain ⟨pD, PZ⟩ := aw
   split at he
   ·rename_i ds s2 jn
    simp only [Option.some.injEq, Prod.mk.injEq] at he
    obtain ⟨rfl, rfl⟩ := he
    obtain ⟨i, d, z, aS, aX, aQ, ca, cR, bZ, bS⟩ := bl.info (gk az (by simp))
    rw [az] at bS
    obtain ⟨gs, rfl, HL⟩ := vq bS
    obtain ⟨fc, lo⟩ := Option.isSome_iff_exists.1 pD
    have pE := cR fc (by rw [b6]; exact lo)
    have hk : a8 w F gY fc.toArray.toList (fun _ => False) := by
     have := (au.flat (w := w) (F := F) _).1 (.agg gY) fc (fun _ => False) (Nat.le_refl _) lo
     rw [au] at this
     simpa using this
    have eM : nk w F s aB (ps.map fun p => (p.1, nj [] p.2)) vs := by simpa [nj] using ar
    obtain ⟨lM, b5, gP, m1, m2, m3, m4, m5, m6, m7, m8, m9, m10⟩ := Db ps vs [] s S gY fc.toArray (fun _ => False) h eM hk (fun _ h => h.elim) (fun _ h => h.elim) (fun _ _ h => h.elim) (fun _ h => h.elim) ds s2 jn
    have fT := PX bl gs.toList (fun g bT => PZ (g.type, g.offset) (by rw [← HL]; exact List.mem_map_of_mem bT))
    have P0 : (fun (k : Nat) => (ax[k]?).map fun (f : TypeId × Nat) => (f.2, (C.T f.1).sz)) = fun (k : Nat) => ((gs.toList.map fun g => (g.offset, (C.T g.type).sz)).toArray)[k]? := by
     funext k
     rw [← HL]
     simp only [List.getElem?_map, List.getElem?_toArray, Option.map_map]
     rfl
    rw [P0] at m1
    refine ⟨.agg lM, w, F, b5, run_build w T vs.toArray lM ?_, m2, .inr ⟨rfl, ⟨_, rfl⟩, gP, by simp only [cr, iy]; rw [au]; exact m3, m4, m5, m6, m7⟩⟩
    unfold Program.built
    simp only [aS, bZ, ca, fT, pE]
    exact m1
   ·cases he
  ·cases he
 ·cases he
theorem P1 (bl : C.e0) (h : bP w0 F0 X F S s aB w) {T : TypeId} {n : Nat} {ps : List (Nat × I)} {vs : List (Nat × Value)} (ar : nk w F s aB ps vs) (he : eD C s T n ps = some (av, s1)) :
  Good C w0 F0 X aB w (Instr.buildSlice T n vs.toArray) av s1 := by
 unfold eD at he
 split at he
 ·rename_i e az
  split at he
  ·rename_i aw
   obtain ⟨n1, oW, pD, eH, awH⟩ := aw
   split at he
   ·rename_i ds s2 jn
    simp only [Option.some.injEq, Prod.mk.injEq] at he
    obtain ⟨rfl, rfl⟩ := he
    obtain ⟨C4, d, C5, aS, aX, aQ, ca, cR, bZ, bS⟩ := bl.info (gk az (by simp))
    rw [az] at bS
    have := kY bS; subst this
    obtain ⟨i, C6, z, f1, f2, f3, f4, f5, f6, f7⟩ := bl.info n1
    obtain ⟨fc, lo⟩ := Option.isSome_iff_exists.1 pD
    have pE := f5 fc lo
    have hk : ∀ aT, au w F (C.T e).zero fc aT := fun aT => (au.flat _).1 _ fc aT (Nat.le_refl _) lo
    have n3 : fc.length = (C.T e).sz := by rw [au.length _ _ _ (hk (fun _ => False)), oW]
    generalize i6 : ((Array.range (n * (C.T e).sz)).map ((if n * (C.T e).sz = 0 then #[] else fc.toArray)[· % (if n * (C.T e).sz = 0 then (#[] : Array Value) else fc.toArray).size]!)) = A
    have Dc : A.toList = (List.replicate n fc).flatten := by
     rw [← i6]
     by_cases bc : n * (C.T e).sz = 0
     ·have : n = 0 := by
       rcases Nat.mul_eq_zero.1 bc with h | h
       ·exact h
       ·exact (eH h).elim
      subst this
      simp
     ·simp only [bc, if_false]
      have := yP fc n
      rw [n3] at this
      simpa [n3] using this
    have eM : nk w F s aB (ps.map fun p => (p.1, nj [] p.2)) vs := by simpa [nj] using ar
    obtain ⟨lM, b5, gP, m1, m2, m3, m4, m5, m6, m7, m8, m9, m10⟩ := Db ps vs [] s S (List.replicate n (C.T e).zero) A (fun _ => False) h eM (by rw [Dc]; exact a8.replicate hk n _) (fun _ h => h.elim) (fun _ h => h.elim) (fun _ _ h => h.elim) (fun _ h => h.elim) ds s2 jn
    have hlen : ds.length = n := by rw [m8]; simp
    have HM := m10 (C.T e).sz (by intro d ai; rw [List.eq_of_mem_replicate ai]; exact oW)
    have P2 : lM.toList.length = n * (C.T e).sz := by rw [a8.rD m3 HM, hlen]
    have P3 : lM.size = n * (C.T e).sz := by rw [← P2]; simp
    have awI : n ≤ 16777216 := by
     have : n * 1 ≤ n * (C.T e).sz := Nat.mul_le_mul_left _ (by omega)
     omega
    have ka := m2.vE (aL := w.alloc (.cells lM e)) (sz := (C.T e).sz) (cap := n) (xs := ds) (cur := lM) (e := e) (fr := (0, 0)) (Sn := gP) rfl rfl rfl rfl
     (fun o _ ⟨_, ah⟩ => absurd ah (Nat.not_lt_zero _)) (by omega) (by unfold maxLen; omega) P3 HM (by rw [hlen, List.take_of_length_le (by omega)]; exact m3) m4 m5 m6 m7
    rw [hlen] at ka
    refine ⟨_, _, F, b5, ?_, ka.1, ka.2⟩
    by_cases bc : n * (C.T e).sz = 0
    ·simp only [bc, if_true] at i6
     have ts : (Array.map (fun _ => (default : Value)) (Array.range 0)) = A := by
      have : n = 0 := by
       rcases Nat.mul_eq_zero.1 bc with h | h
       ·exact h
       ·exact (eH h).elim
      apply Array.ext'
      rw [Dc, this]
      simp
     simp [Instr.buildSlice, run_underlying bZ, jX f1, f2, bc, newRow]
     rw [ts, m1]
     simp
    ·simp only [bc, if_false] at i6
     have mX : ¬ (16777216 < n * (C.T e).sz) := by omega
     simp [Instr.buildSlice, run_underlying bZ, jX f1, f2, bc, mX, te f1 f4, pE, newRow]
     have ts : (Array.map (fun x => fc[x % fc.length]?.getD default) (Array.range (n * (C.T e).sz))) = A := by
      rw [← i6]; simp
     rw [ts, m1]
     simp
   ·cases he
  ·cases he
 ·cases he
end
inductive fX where
 | cj (x : aF)
 | fN (x : aF)
 | pick (c a b : aF)
 | gL (T : TypeId)
 | cU (T : TypeId) (x : aF)
 | fM (T : TypeId) (ps : List (Nat × aF))
 | eD (T : TypeId) (n : Nat) (ps : List (Nat × aF))
 | b4 (T : TypeId) (x : aF)
 | fU (T : TypeId) (x y : aF)
 | fC (x : aF)
 | b1 (op : BinOp) (T : TypeId) (x y : aF)
 | un (op : UnOp) (x : aF)
 | fW (A B : TypeId) (x : aF)
 | il (f : FuncId) (cs : List aF)
 | er (T : TypeId) (l c : aF)
 | fl (T : TypeId) (x : aF) (dc al : Option aF)
 | cB (T : TypeId) (x : aF) (k : Nat)
 | e6 (T : TypeId) (x i : aF)
 | idx (T : TypeId) (x i : aF)
 | ex (x : aF) (k : Nat)
 | lI (T : TypeId) (x : aF) (k : Nat)
 | call (f : aF) (args : List aF)
 | len (T : TypeId) (x : aF)
 | app (T bF : TypeId) (x y : aF)
 | shr (bG : fX)
 | ni (T bF : TypeId) (x y : aF)
 | cap (T : TypeId) (x : aF)
 | oZ (hJ : Bool) (x y : aF)
 | bad
 | l_ (f : aF) (args : List aF) (u x : Nat)
 | ma (f : aF) (args : List aF) (us : List Nat)
 | kZ (T : TypeId) (x : aF)
 | qv (x : aF)
 | pG (x : aF)
def fX.base : fX → fX
 | .shr bG => bG
 | .ni T bF x y => .app T bF x y
 | .l_ f args _ _ => .call f args
 | .ma f args _ => .call f args
 | .kZ T x => .cU T x
 | .qv x => .fN x
 | .pG x => .cj x
 | bG => bG
def n4 : List Operand → Option (List aF)
 | [] => some []
 | o :: os => match dH o, n4 os with
   | some x, some xs => some (x :: xs)
   | _, _ => none
def tt : List (Nat × Operand) → Option (List (Nat × aF))
 | [] => some []
 | (k, o) :: os => match dH o, tt os with
   | some x, some xs => some ((k, x) :: xs)
   | _, _ => none
def vR : Option Operand → Option (Option aF)
 | none => some none
 | some o => (dH o).map some
def c1 : Op → Option fX
 | .move x => (dH x).map .cj
 | .assign x => (dH x).map .fN
 | .pick c a b => match dH c, dH a, dH b with
   | some c, some a, some b => some (.pick c a b)
   | _, _, _ => none
 | .alloc T => some (.gL T)
 | .box T x => (dH x).map (.cU T)
 | .build T ps => (tt ps.toList).map (.fM T)
 | .buildSlice T n ps => (tt ps.toList).map (.eD T n)
 | .load T x => (dH x).map (.b4 T)
 | .store T x y => match dH x, dH y with
   | some x, some y => some (.fU T x y)
   | _, _ => none
 | .nilCheck x => (dH x).map .fC
 | .binOp op T x y _ => match dH x, dH y with
   | some x, some y => some (.b1 op T x y)
   | _, _ => none
 | .unOp op _ x => (dH x).map (.un op)
 | .convert A B x => (dH x).map (.fW A B)
 | .makeFunc (.func f) first cs => if first.isEmpty then (n4 cs.toList).map (.il f) else none
 | .makeSlice T l c => match dH l, dH c with
   | some l, some c => some (.er T l c)
   | _, _ => none
 | .slice T x dc al none => match dH x, vR dc, vR al with
   | some x, some dc, some al => some (.fl T x dc al)
   | _, _, _ => none
 | .fieldAddr T x k => (dH x).map fun x => .cB T x k
 | .indexAddr T x i => match dH x, dH i with
   | some x, some i => some (.e6 T x i)
   | _, _ => none
 | .index T x i => match dH x, dH i with
   | some x, some i => some (.idx T x i)
   | _, _ => none
 | .extract x k => (dH x).map fun x => .ex x k
 | .field T x k => (dH x).map fun x => .lI T x k
 | .call c => match c.callee with
   | .value f => match dH f, n4 c.args.toList with
     | some f, some xs => some (.call f xs)
     | _, _ => none
   | .builtin .len => match c.args.toList, c.argTypes.toList with
     | [x], [T] => (dH x).map (.len T)
     | _, _ => none
   | .builtin .cap => match c.args.toList, c.argTypes.toList with
     | [x], [T] => (dH x).map (.cap T)
     | _, _ => none
   | .builtin .min => match c.args.toList with
     | [x, y] => match dH x, dH y with
       | some x, some y => some (.oZ false x y)
       | _, _ => none
     | _ => none
   | .builtin .max => match c.args.toList with
     | [x, y] => match dH x, dH y with
       | some x, some y => some (.oZ true x y)
       | _, _ => none
     | _ => none
   | .builtin .append => match c.args.toList, c.argTypes.toList with
     | [x, y], [T, bF] => match dH x, dH y with
       | some x, some y => some (.app T bF x y)
       | _, _ => none
     | _, _ => none
   | _ => none
 | _ => none
def oZ (hJ : Bool) : I → I → Option I
 | .str a, .str b => some (.str (yr hJ a b))
 | _, _ => none
def o0 (s : ao) : I → Option (I × ao)
 | .h y q => cT s (.h y q)
 | d => some (d, s)
def bI (C : ck) (s : ao) : fX → Option (I × ao)
 | .cj x => some (aK s x, s)
 | .fN x => match aK s x with
   | .h y q => cT s (.h y q)
   | d => some (d, s)
 | .pick c a b => match aK s c with
   | .bool fJ => some (if fJ then aK s a else aK s b, s)
   | _ => none
 | .gL T => (gL C T).map fun d => (d, s)
 | .cU _ x => cU s (aK s x)
 | .fM T ps => fM C s T (ps.map fun p => (p.1, aK s p.2))
 | .eD T n ps => eD C s T n (ps.map fun p => (p.1, aK s p.2))
 | .b4 T x => (b4 C s T (aK s x)).map fun d => (d, s)
 | .fU T x y => (fU C s T (aK s x) (aK s y)).map fun s1 => (.hole, s1)
 | .fC x => (fC s (aK s x)).map fun d => (d, s)
 | .b1 op T x y => (b1 C s op T (aK s x) (aK s y)).map fun d => (d, s)
 | .un op x => (un op (aK s x)).map fun d => (d, s)
 | .fW A B x => (fW C s A B (aK s x)).map fun d => (d, s)
 | .il f cs => some (.fn f (cs.map (aK s)), s)
 | .er T l c => (er C T (aK s l) (aK s c)).map fun d => (d, s)
 | .fl T x dc al => fl C s T (aK s x) (dc.map (aK s)) (al.map (aK s))
 | .cB T x k => (cB C s T (aK s x) k).map fun d => (d, s)
 | .e6 T x i => (e6 C s T (aK s x) (aK s i)).map fun d => (d, s)
 | .idx T x i => (idx C T (aK s x) (aK s i)).map fun d => (d, s)
 | .ex x k => (ex s (aK s x) k).map fun d => (d, s)
 | .lI T x k => (lI C s T (aK s x) k).bind (o0 s)
 | .call _ _ => none
 | .len T x => (lJ C s T (aK s x)).map fun d => (d, s)
 | .app T bF x y => lL C s T bF (aK s x) (aK s y)
 | .shr _ => none
 | .l_ _ _ _ _ => none
 | .ma _ _ _ => none
 | .kZ _ x => kZ s (aK s x)
 | .qv x => some (aK s x, s)
 | .pG x => o0 s (aK s x)
 | .ni T bF x y => (ni C T bF (aK s x) (aK s y)).map fun d => (d, s)
 | .cap T x => match (C.T T).k, aK s x with
   | .slice _, .bp => some (.int .i64 0, s)
   | _, _ => none
 | .oZ hJ x y => (oZ hJ (aK s x) (aK s y)).map fun d => (d, s)
 | .bad => none
section
variable {C : ck} {w0 w : World} {F0 X F : Nat → Prop} {S : Nat → Nat → Prop} {s s1 : ao} {a : Act} {av : I}
theorem rG : ∀ {os : List Operand} {xs : List aF}, n4 os = some xs → os.map dH = xs.map some
 | [], xs, h => by simp [n4] at h; subst h; rfl
 | o :: os, xs, h => by
   simp only [n4] at h
   split at h
   ·rename_i x HN ag ah
    simp at h; subst h
    simp [ag, rG ah]
   ·cases h
theorem De {aB : Nat → Value} (h : bP w0 F0 X F S s aB w) (eJ : ∀ t, aB t = a.tmps.getD t undef) : ∀ {ps : List (Nat × Operand)} {xs : List (Nat × aF)}, tt ps = some xs →
  nk w F s aB (xs.map fun p => (p.1, aK s p.2)) (ps.map fun p => (p.1, a.eval p.2))
 | [], xs, h => by simp [tt] at h; subst h; trivial
 | (k, o) :: ps, xs, bx => by
   simp only [tt] at bx
   split at bx
   ·rename_i x HN ag ah
    simp at bx; subst bx
    obtain ⟨g1, g2⟩ := fL h eJ ag
    exact ⟨rfl, g1, g2, De h eJ ah⟩
   ·cases bx
def Next (C : ck) (w0 : World) (F0 X : Nat → Prop) (aB : Nat → Value) (w : World) (m : Sem Go.Next) (av : I) (s1 : ao) : Prop :=
 ∃ r aL v bL aT, m.run C.P w = .ok r aL ∧ (r = .value v ∨ r = .skip ∧ v = undef) ∧ bP w0 F0 X bL aT s1 aB aL ∧ kX w0 X bL aT s1 aB aL av v
theorem Good.next {aB : Nat → Value} {m : Sem Value} (h : Good C w0 F0 X aB w m av s1) : Next C w0 F0 X aB w (do pure (.value (← m))) av s1 := by
 obtain ⟨v, aL, bL, aT, ag, ah, aI⟩ := h
 exact ⟨.value v, aL, v, bL, aT, by simp [ag], .inl rfl, ah, aI⟩
theorem HO {aB : Nat → Value} (h : bP w0 F0 X F S s aB w) {hJ : Bool} {x y : I} {jo iR : Value} {m : Sem Go.Next} (ag : aG w F s aB x jo (fun _ => False)) (ah : aG w F s aB y iR (fun _ => False))
  (he : (oZ hJ x y).map (fun d => (d, s)) = some (av, s1)) (hm : m = (do pure (.value (← if hJ then Builtin.max2 jo iR else Builtin.min2 jo iR)))) : Next C w0 F0 X aB w m av s1 := by
 simp only [Option.map_eq_some_iff, Prod.mk.injEq] at he
 obtain ⟨d, ai, rfl, rfl⟩ := he
 unfold oZ at ai
 split at ai
 ·rename_i a b
  simp only [Option.some.injEq] at ai; subst ai
  have aS := nZ ag
  have aX := nZ ah
  subst aS aX
  subst hm
  refine ⟨.value (.string ⟨⟨yr hJ a b⟩⟩), w, _, F, S, ?_, .inl rfl, h, .inl ⟨rfl, mZ _⟩⟩
  cases hJ
  ·simp only [Builtin.min2, Op.stringOp, vz, yr, Bool.false_eq_true, if_false]
   cases ab : (Op.bytesLess a b || a == b) <;> simp [asBool]
  ·simp only [Builtin.max2, Op.stringOp, vz, yr, if_true]
   cases ab : Op.bytesLess a b <;> simp [asBool]
 ·cases ai
theorem HP (bl : C.e0) {aB : Nat → Value} (h : bP w0 F0 X F S s aB w) (eJ : ∀ t, aB t = a.tmps.getD t undef) {o : Oper} {bG : fX} (ad : c1 o.op = some bG) (he : bI C s bG = some (av, s1)) :
  Next C w0 F0 X aB w (execOp a.eval o) av s1 := by
 obtain ⟨dst, op, ty, pos, after, guard⟩ := o
 simp only at ad
 cases op with
 | move x =>
   simp only [c1, Option.map_eq_some_iff] at ad
   obtain ⟨dr, aq, rfl⟩ := ad
   obtain ⟨g1, g2⟩ := fL h eJ aq
   simp only [bI, Option.some.injEq, Prod.mk.injEq] at he
   obtain ⟨rfl, rfl⟩ := he
   exact ⟨_, w, _, F, S, rfl, .inl rfl, h, .inl ⟨g1, g2⟩⟩
 | assign x =>
   simp only [c1, Option.map_eq_some_iff] at ad
   obtain ⟨dr, aq, rfl⟩ := ad
   obtain ⟨g1, g2⟩ := fL h eJ aq
   simp only [bI] at he
   split at he
   ·rename_i y q bt
    rw [bt] at g1 g2
    obtain ⟨b5, k0, bU, cb, Sn, e5, dX, fB, eC, jq, _⟩ := oO h g1 g2 he
    exact ⟨_, w, _, F, b5, rfl, .inl rfl, k0, .inr ⟨bU, cb, Sn, e5, dX, fB, eC, jq⟩⟩
   ·simp only [Option.some.injEq, Prod.mk.injEq] at he
    obtain ⟨rfl, rfl⟩ := he
    exact ⟨_, w, _, F, S, rfl, .inl rfl, h, .inl ⟨g1, g2⟩⟩
 | pick c x y =>
   simp only [c1] at ad
   split at ad
   ·rename_i vS dr kq aw aq bt
    simp only [Option.some.injEq] at ad; subst ad
    simp only [bI] at he
    split at he
    ·rename_i b ab
     simp only [Option.some.injEq, Prod.mk.injEq] at he
     obtain ⟨rfl, rfl⟩ := he
     have rF := (fL h eJ aw).2
     rw [ab] at rF
     have rF := rv rF
     obtain ⟨af, ay⟩ := fL h eJ aq
     obtain ⟨e1, hD⟩ := fL h eJ bt
     refine ⟨.value (if b then a.eval x else a.eval y), w, _, F, S, ?_, .inl rfl, h, .inl ?_⟩
     ·simp [execOp, rF, asBool]
     ·cases b
      ·exact ⟨e1, hD⟩
      ·exact ⟨af, ay⟩
    ·cases he
   ·cases ad
 | alloc T =>
   simp only [c1, Option.some.injEq] at ad; subst ad
   simp only [bI, Option.map_eq_some_iff, Prod.mk.injEq] at he
   obtain ⟨d, ai, rfl, rfl⟩ := he
   exact (O3 bl h ai).next
 | box T x =>
   simp only [c1, Option.map_eq_some_iff] at ad
   obtain ⟨dr, aq, rfl⟩ := ad
   obtain ⟨g1, g2⟩ := fL h eJ aq
   exact (O6 h g1 g2 he).next
 | build T ps =>
   simp only [c1, Option.map_eq_some_iff] at ad
   obtain ⟨P4, ar, rfl⟩ := ad
   obtain ⟨ps⟩ := ps
   have := (PY bl h (De h eJ ar) he).next
   simpa [execOp] using this
 | buildSlice T n ps =>
   simp only [c1, Option.map_eq_some_iff] at ad
   obtain ⟨P4, ar, rfl⟩ := ad
   obtain ⟨ps⟩ := ps
   have := (P1 bl h (De h eJ ar) he).next
   simpa [execOp] using this
 | load T x =>
   simp only [c1, Option.map_eq_some_iff] at ad
   obtain ⟨dr, aq, rfl⟩ := ad
   obtain ⟨g1, g2⟩ := fL h eJ aq
   simp only [bI, Option.map_eq_some_iff, Prod.mk.injEq] at he
   obtain ⟨d, ai, rfl, rfl⟩ := he
   exact (OY bl h g2 ai).next
 | store T x y =>
   simp only [c1] at ad
   split at ad
   ·rename_i dr kq aq bt
    simp only [Option.some.injEq] at ad; subst ad
    simp only [bI, Option.map_eq_some_iff, Prod.mk.injEq] at he
    obtain ⟨s2, ai, rfl, rfl⟩ := he
    obtain ⟨aL, aT, ag, ah⟩ := O1 bl h (fL h eJ aq).2 (fL h eJ bt).1 (fL h eJ bt).2 ai
    exact ⟨.skip, aL, undef, F, aT, by simp [execOp, ag], .inr ⟨rfl, rfl⟩, ah, .inl ⟨rfl, by rw [aG]; trivial⟩⟩
   ·cases ad
 | nilCheck x =>
   simp only [c1, Option.map_eq_some_iff] at ad
   obtain ⟨dr, aq, rfl⟩ := ad
   obtain ⟨g1, g2⟩ := fL h eJ aq
   simp only [bI, Option.map_eq_some_iff, Prod.mk.injEq] at he
   obtain ⟨d, ai, rfl, rfl⟩ := he
   obtain ⟨rfl, ar, aN⟩ := Pl h g2 ai
   refine ⟨.value (a.eval x), w, _, F, S, ?_, .inl rfl, h, .inl ⟨ar, g2⟩⟩
   rcases aN with ⟨b, ab⟩ | ⟨f, c, ab⟩ <;> simp [execOp, ab]
 | binOp op T x y awJ =>
   simp only [c1] at ad
   split at ad
   ·rename_i dr kq aq bt
    simp only [Option.some.injEq] at ad; subst ad
    simp only [bI, Option.map_eq_some_iff, Prod.mk.injEq] at he
    obtain ⟨d, ai, rfl, rfl⟩ := he
    exact (Ph bl h x y (fL h eJ aq).2 (fL h eJ bt).2 ai).next
   ·cases ad
 | unOp op T x =>
   simp only [c1, Option.map_eq_some_iff] at ad
   obtain ⟨dr, aq, rfl⟩ := ad
   simp only [bI, Option.map_eq_some_iff, Prod.mk.injEq] at he
   obtain ⟨d, ai, rfl, rfl⟩ := he
   exact (Pj h (fL h eJ aq).2 ai).next
 | convert A B x =>
   simp only [c1, Option.map_eq_some_iff] at ad
   obtain ⟨dr, aq, rfl⟩ := ad
   simp only [bI, Option.map_eq_some_iff, Prod.mk.injEq] at he
   obtain ⟨d, ai, rfl, rfl⟩ := he
   exact (Pu bl h (fL h eJ aq).2 ai).next
 | makeFunc fn first cs =>
   cases fn with
   | func f =>
     simp only [c1] at ad
     split at ad
     ·rename_i Df
      simp only [Option.map_eq_some_iff] at ad
      obtain ⟨nm, hj, rfl⟩ := ad
      simp only [bI, Option.some.injEq, Prod.mk.injEq] at he
      obtain ⟨rfl, rfl⟩ := he
      have Dg : first = #[] := by simpa using Df
      subst Dg
      refine ⟨_, w, _, F, S, rfl, .inl rfl, h, .inl ⟨rfl, ?_⟩⟩
      rw [aG]
      refine ⟨cs.map a.eval, by simp, ?_⟩
      simpa using yS h eJ _ _ (rG hj)
     ·cases ad
   | _ => simp [c1] at ad
 | makeSlice T l c =>
   simp only [c1] at ad
   split at ad
   ·rename_i dr kq aq bt
    simp only [Option.some.injEq] at ad; subst ad
    simp only [bI, Option.map_eq_some_iff, Prod.mk.injEq] at he
    obtain ⟨d, ai, rfl, rfl⟩ := he
    exact (PO bl h (fL h eJ aq).2 (fL h eJ bt).2 ai).next
   ·cases ad
 | slice T x dc al hJ =>
   cases hJ with
   | some m => simp [c1] at ad
   | none =>
     simp only [c1] at ad
     split at ad
     ·rename_i dr awK HQ aq nc nd
      simp only [Option.some.injEq] at ad; subst ad
      obtain ⟨g1, g2⟩ := fL h eJ aq
      have opt : ∀ {o : Option Operand} {mE : Option aF}, vR o = some mE → pB w F s aB (mE.map (aK s)) (o.map a.eval) := by
       intro o mE cg
       cases o with
       | none => simp [vR] at cg; subst cg; trivial
       | some o =>
         simp only [vR, Option.map_eq_some_iff] at cg
         obtain ⟨x, aq, rfl⟩ := cg
         exact (fL h eJ aq).2
      exact (Px bl h g1 g2 (opt nc) (opt nd) he).next
     ·cases ad
 | fieldAddr T x k =>
   simp only [c1, Option.map_eq_some_iff] at ad
   obtain ⟨dr, aq, rfl⟩ := ad
   obtain ⟨g1, g2⟩ := fL h eJ aq
   simp only [bI, Option.map_eq_some_iff, Prod.mk.injEq] at he
   obtain ⟨d, ai, rfl, rfl⟩ := he
   exact (OS bl h g1 g2 ai).next
 | indexAddr T x i =>
   simp only [c1] at ad
   split at ad
   ·rename_i dr kq aq bt
    simp only [Option.some.injEq] at ad; subst ad
    simp only [bI, Option.map_eq_some_iff, Prod.mk.injEq] at he
    obtain ⟨d, ai, rfl, rfl⟩ := he
    exact (OT bl h (fL h eJ aq).2 (fL h eJ bt).2 ai).next
   ·cases ad
 | index T x i =>
   simp only [c1] at ad
   split at ad
   ·rename_i dr kq aq bt
    simp only [Option.some.injEq] at ad; subst ad
    simp only [bI, Option.map_eq_some_iff, Prod.mk.injEq] at he
    obtain ⟨d, ai, rfl, rfl⟩ := he
    exact (Pr bl h (fL h eJ aq).2 (fL h eJ bt).2 ai).next
   ·cases ad
 | extract x k =>
   simp only [c1, Option.map_eq_some_iff] at ad
   obtain ⟨dr, aq, rfl⟩ := ad
   simp only [bI, Option.map_eq_some_iff, Prod.mk.injEq] at he
   obtain ⟨d, ai, rfl, rfl⟩ := he
   exact (Po h (fL h eJ aq).2 ai).next
 | field T x k =>
   simp only [c1, Option.map_eq_some_iff] at ad
   obtain ⟨dr, aq, rfl⟩ := ad
   simp only [bI, Option.bind_eq_some_iff] at he
   obtain ⟨d, ai, he⟩ := he
   obtain ⟨v, aL, bL, aT, aV, mz, nS⟩ := Pp bl h (fL h eJ aq).2 ai
   unfold o0 at he
   split at he
   ·rename_i y q
    have P5 : aG aL bL s aB (.h y q) v (fun _ => False) := by
     rcases nS with ⟨_, g2⟩ | ⟨g1, _⟩
     ·exact g2
     ·cases g1
    obtain ⟨b5, k0, bU, cb, Sn, e5, dX, fB, eC, jq, _⟩ := oO mz rfl P5 he
    exact ⟨.value v, aL, v, bL, b5, by simp [execOp, aV], .inl rfl, k0, .inr ⟨bU, cb, Sn, e5, dX, fB, eC, jq⟩⟩
   ·simp only [Option.some.injEq, Prod.mk.injEq] at he
    obtain ⟨rfl, rfl⟩ := he
    exact ⟨.value v, aL, v, bL, aT, by simp [execOp, aV], .inl rfl, mz, nS⟩
 | call c =>
   obtain ⟨callee, args, argTypes⟩ := c
   simp only [c1] at ad
   split at ad
   ·split at ad
    ·simp only [Option.some.injEq] at ad; subst ad
     simp [bI] at he
    ·cases ad
   ·split at ad
    ·rename_i x T mb rH
     simp only [Option.map_eq_some_iff] at ad
     obtain ⟨dr, aq, rfl⟩ := ad
     simp only [bI, Option.map_eq_some_iff, Prod.mk.injEq] at he
     obtain ⟨d, ai, rfl, rfl⟩ := he
     have := (Ps (ty := ty) bl h (fL h eJ aq).2 ai).next
     have aS : args = #[x] := by apply Array.ext'; exact mb
     have aX : argTypes = #[T] := by apply Array.ext'; exact rH
     subst aS aX
     simpa [execOp, resolve, invoke, builtin] using this
    ·cases ad
   ·split at ad
    ·rename_i x T mb rH
     simp only [Option.map_eq_some_iff] at ad
     obtain ⟨dr, aq, rfl⟩ := ad
     simp only [bI] at he
     split at he
     ·rename_i e az P6
      simp only [Option.some.injEq, Prod.mk.injEq] at he
      obtain ⟨rfl, rfl⟩ := he
      have aN := (fL h eJ aq).2
      rw [P6] at aN
      have := pA aN
      obtain ⟨i, d, z, aS, aX, aQ, ca, cR, bZ, bS⟩ := bl.info (gk az (by simp))
      rw [az] at bS
      have ai := kY bS; subst ai
      have P7 : args = #[x] := by apply Array.ext'; exact mb
      have P8 : argTypes = #[T] := by apply Array.ext'; exact rH
      subst P7 P8
      have aV : (Builtin.cap_ #[T] ty #[a.eval x]).run C.P w = .ok (.int .i64 0) w := by
       rw [this]; simp [Builtin.cap_, run_underlying bZ, goInt]
      have := (Good.same (av := .int .i64 0) h aV rfl (of_int _ _)).next
      simpa [execOp, resolve, invoke, builtin] using this
     ·cases he
    ·cases ad
   ·split at ad
    ·rename_i x y mb
     split at ad
     ·rename_i dr kq aq bt
      simp only [Option.some.injEq] at ad; subst ad
      have aS : args = #[x, y] := by apply Array.ext'; exact mb
      subst aS
      exact HO h (fL h eJ aq).2 (fL h eJ bt).2 he (by simp [execOp, resolve, invoke, builtin, Builtin.min_])
     ·cases ad
    ·cases ad
   ·split at ad
    ·rename_i x y mb
     split at ad
     ·rename_i dr kq aq bt
      simp only [Option.some.injEq] at ad; subst ad
      have aS : args = #[x, y] := by apply Array.ext'; exact mb
      subst aS
      exact HO h (fL h eJ aq).2 (fL h eJ bt).2 he (by simp [execOp, resolve, invoke, builtin, Builtin.max_])
     ·cases ad
    ·cases ad
   ·split at ad
    ·rename_i x y T bF mb rH
     split at ad
     ·rename_i dr kq aq bt
      simp only [Option.some.injEq] at ad; subst ad
      have := (PH (ty := ty) bl h (fL h eJ aq).2 (fL h eJ bt).2 he).next
      have aS : args = #[x, y] := by apply Array.ext'; exact mb
      have aX : argTypes = #[T, bF] := by apply Array.ext'; exact rH
      subst aS aX
      simpa [execOp, resolve, invoke, builtin] using this
     ·cases ad
    ·cases ad
   ·cases ad
 | _ => simp [c1] at ad
end
mutual
def I.ad : I → List Nat
 | .h x _ => [x]
 | .ar x _ => [x]
 | .ab x _ => [x]
 | .fn _ cap => I.eE cap
 | _ => []
def I.eE : List I → List Nat
 | [] => []
 | d :: ds => d.ad ++ I.eE ds
end
inductive o1 where
 | no
 | cd
 | cS
structure gR where
 k : o1
 x : Nat
 d : I
def o1.app (k : o1) (x : Nat) (a : I) : I := match k with
 | .no => a
 | .cd => c0.cd x a
 | .cS => c0.cS x a
def gR.at (m : gR) (u : Nat) (a : I) : I := if u = m.x then m.d else m.k.app m.x a
def jY : List gR → Nat → I → I
 | [], _, a => a
 | m :: ms, u, a => jY ms u (m.at u a)
def dy (ms : List gR) (s : ao) : ao := fun u => jY ms u (s u)
theorem HR : ∀ (ms kK : List gR) (u : Nat) (a : I), jY (ms ++ kK) u a = jY kK u (jY ms u a)
 | [], _, _, _ => rfl
 | m :: ms, kK, u, a => by simp only [List.cons_append, jY]; exact HR ms kK u _
theorem lp (ms kK : List gR) (s : ao) : dy (ms ++ kK) s = dy kK (dy ms s) := by
 funext u; simp [dy, HR]
theorem P9 {ms : List gR} {s aA : ao} {u : Nat} (h : aA u = s u) : dy ms aA u = dy ms s u := by simp [dy, h]
theorem vT (s : ao) (x : Nat) (d : I) : dw (iZ x s) x d = dy [⟨.cd, x, d⟩] s := by
 funext u; simp only [dy, jY, gR.at, dw, iZ, o1.app]
theorem HS (s : ao) (x : Nat) (d : I) : dw (lE x s) x d = dy [⟨.cS, x, d⟩] s := by
 funext u; simp only [dy, jY, gR.at, dw, lE, o1.app]
theorem Dh (s : ao) (x : Nat) (d : I) : dw s x d = dy [⟨.no, x, d⟩] s := by
 funext u; simp only [dy, jY, gR.at, dw, o1.app]
mutual
theorem vU {x : Nat} : ∀ a : I, x ∉ a.ad → cd x a = a
 | .h y q, h => by
   simp only [I.ad, List.mem_singleton] at h
   simp only [cd]; rw [if_neg (fun e => h e.symm)]
 | .ar y q, h => by
   simp only [I.ad, List.mem_singleton] at h
   simp only [cd]; rw [if_neg (fun e => h e.symm)]
 | .ab y q, h => rfl
 | .fn f cap, h => by simp only [cd]; rw [HT cap (by simpa [I.ad] using h)]
 | .hole, _ => rfl
 | .bool _, _ => rfl
 | .e_, _ => rfl
 | .int _ _, _ => rfl
 | .str _, _ => rfl
 | .dv, _ => rfl
 | .bp, _ => rfl
 | .slice _, _ => rfl
 | .aP _ _, _ => rfl
 | .ref _, _ => rfl
 | .a7 _, _ => rfl
 | .agg _, _ => rfl
 | .tuple _, _ => rfl
theorem HT {x : Nat} : ∀ ds : List I, x ∉ I.eE ds → iP x ds = ds
 | [], _ => rfl
 | d :: ds, h => by
   simp only [I.eE, List.mem_append, not_or] at h
   simp only [iP]; rw [vU d h.1, HT ds h.2]
end
mutual
theorem Di {x : Nat} : ∀ a : I, x ∉ a.ad → cS x a = a
 | .h y q, h => by
   simp only [I.ad, List.mem_singleton] at h
   simp only [cS]; rw [if_neg (fun e => h e.symm)]
 | .ar y q, h => by
   simp only [I.ad, List.mem_singleton] at h
   simp only [cS]; rw [if_neg (fun e => h e.symm)]
 | .ab y q, h => by
   simp only [I.ad, List.mem_singleton] at h
   simp only [cS]; rw [if_neg (fun e => h e.symm)]
 | .fn f cap, h => by simp only [cS]; rw [HU cap (by simpa [I.ad] using h)]
 | .hole, _ => rfl
 | .bool _, _ => rfl
 | .e_, _ => rfl
 | .int _ _, _ => rfl
 | .str _, _ => rfl
 | .dv, _ => rfl
 | .bp, _ => rfl
 | .slice _, _ => rfl
 | .aP _ _, _ => rfl
 | .ref _, _ => rfl
 | .a7 _, _ => rfl
 | .agg _, _ => rfl
 | .tuple _, _ => rfl
theorem HU {x : Nat} : ∀ ds : List I, x ∉ I.eE ds → jm x ds = ds
 | [], _ => rfl
 | d :: ds, h => by
   simp only [I.eE, List.mem_append, not_or] at h
   simp only [jm]; rw [Di d h.1, HU ds h.2]
end
theorem vV {k : o1} {x : Nat} {a : I} (h : k = .no ∨ x ∉ a.ad) : k.app x a = a := by
 cases k with
 | no => rfl
 | cd => exact vU a (by simpa using h)
 | cS => exact Di a (by simpa using h)
mutual
theorem HV (x y : Nat) : ∀ a : I, cd x (cd y a) = cd y (cd x a)
 | .h z q => by simp only [cd]; by_cases ag : z = x <;> by_cases ah : z = y <;> by_cases aI : q = [] <;> simp [ag, ah, aI, cd] <;> (subst_vars; simp_all [cd])
 | .ar z q => by simp only [cd]; by_cases ag : z = x <;> by_cases ah : z = y <;> simp [ag, ah, cd] <;> (subst_vars; simp_all [cd])
 | .ab z q => rfl
 | .fn f cap => by simp only [cd]; rw [HW x y cap]
 | .hole => rfl
 | .bool _ => rfl
 | .e_ => rfl
 | .int _ _ => rfl
 | .str _ => rfl
 | .dv => rfl
 | .bp => rfl
 | .slice _ => rfl
 | .aP _ _ => rfl
 | .ref _ => rfl
 | .a7 _ => rfl
 | .agg _ => rfl
 | .tuple _ => rfl
theorem HW (x y : Nat) : ∀ ds : List I, iP x (iP y ds) = iP y (iP x ds)
 | [] => rfl
 | d :: ds => by simp only [iP]; rw [HV x y d, HW x y ds]
end
mutual
theorem HX (x y : Nat) : ∀ a : I, cS x (cS y a) = cS y (cS x a)
 | .h z q => by simp only [cS]; by_cases ag : z = x <;> by_cases ah : z = y <;> simp [ag, ah, cS] <;> (subst_vars; simp_all [cS])
 | .ar z q => by simp only [cS]; by_cases ag : z = x <;> by_cases ah : z = y <;> simp [ag, ah, cS] <;> (subst_vars; simp_all [cS])
 | .ab z q => by simp only [cS]; by_cases ag : z = x <;> by_cases ah : z = y <;> simp [ag, ah, cS] <;> (subst_vars; simp_all [cS])
 | .fn f cap => by simp only [cS]; rw [HY x y cap]
 | .hole => rfl
 | .bool _ => rfl
 | .e_ => rfl
 | .int _ _ => rfl
 | .str _ => rfl
 | .dv => rfl
 | .bp => rfl
 | .slice _ => rfl
 | .aP _ _ => rfl
 | .ref _ => rfl
 | .a7 _ => rfl
 | .agg _ => rfl
 | .tuple _ => rfl
theorem HY (x y : Nat) : ∀ ds : List I, jm x (jm y ds) = jm y (jm x ds)
 | [] => rfl
 | d :: ds => by simp only [jm]; rw [HX x y d, HY x y ds]
end
mutual
theorem Dj (x y : Nat) : ∀ a : I, cd x (cS y a) = cS y (cd x a)
 | .h z q => by simp only [cS, cd]; by_cases ag : z = x <;> by_cases ah : z = y <;> by_cases aI : q = [] <;> simp [ag, ah, aI, cS, cd] <;> (subst_vars; simp_all [cS, cd])
 | .ar z q => by simp only [cS, cd]; by_cases ag : z = x <;> by_cases ah : z = y <;> simp [ag, ah, cS, cd] <;> (subst_vars; simp_all [cS, cd])
 | .ab z q => by simp only [cS, cd]; by_cases ah : z = y <;> simp [ah, cd]
 | .fn f cap => by simp only [cS, cd]; rw [HZ x y cap]
 | .hole => rfl
 | .bool _ => rfl
 | .e_ => rfl
 | .int _ _ => rfl
 | .str _ => rfl
 | .dv => rfl
 | .bp => rfl
 | .slice _ => rfl
 | .aP _ _ => rfl
 | .ref _ => rfl
 | .a7 _ => rfl
 | .agg _ => rfl
 | .tuple _ => rfl
theorem HZ (x y : Nat) : ∀ ds : List I, iP x (jm y ds) = jm y (iP x ds)
 | [] => rfl
 | d :: ds => by simp only [jm, iP]; rw [Dj x y d, HZ x y ds]
end
theorem P_ (k l : o1) (x y : Nat) (a : I) : k.app x (l.app y a) = l.app y (k.app x a) := by
 cases k <;> cases l <;> simp only [o1.app] <;> first | rfl | exact HV .. | exact HX .. | exact Dj .. | exact (Dj ..).symm
def aF.use (s : ao) : aF → List Nat
 | .t n => n :: (s n).ad
 | .c av => av.ad
 | .f _ => []
def aF.nn (s : ao) : List aF → List Nat
 | [] => []
 | x :: xs => x.use s ++ aF.nn s xs
def Dk (s : ao) : Option aF → List Nat
 | none => []
 | some x => x.use s
def use (s : ao) : fX → List Nat
 | .cj x => x.use s
 | .fN x => x.use s
 | .pick c a b => c.use s ++ (a.use s ++ b.use s)
 | .gL _ => []
 | .cU _ x => x.use s
 | .fM _ ps => aF.nn s (ps.map (·.2))
 | .eD _ _ ps => aF.nn s (ps.map (·.2))
 | .b4 _ x => x.use s
 | .fU _ x y => x.use s ++ y.use s
 | .fC x => x.use s
 | .b1 _ _ x y => x.use s ++ y.use s
 | .un _ x => x.use s
 | .fW _ _ x => x.use s
 | .il _ cs => aF.nn s cs
 | .er _ l c => l.use s ++ c.use s
 | .fl _ x dc al => x.use s ++ (Dk s dc ++ Dk s al)
 | .cB _ x _ => x.use s
 | .e6 _ x i => x.use s ++ i.use s
 | .idx _ x i => x.use s ++ i.use s
 | .ex x _ => x.use s
 | .lI _ x _ => x.use s
 | .call f args => f.use s ++ aF.nn s args
 | .len _ x => x.use s
 | .app _ _ x y => x.use s ++ y.use s
 | .shr bG => use s bG
 | .l_ f args u x => u :: x :: (f.use s ++ aF.nn s args)
 | .ma f args us => us.flatMap (fun u => u :: (s u).ad) ++ (f.use s ++ aF.nn s args)
 | .kZ _ x => x.use s
 | .qv x => x.use s
 | .pG x => x.use s
 | .ni _ _ x y => x.use s ++ y.use s
 | .cap _ x => x.use s
 | .oZ _ x y => x.use s ++ y.use s
 | .bad => []
def dt (s : ao) : fX → List Nat
 | .fN x => (aK s x).ad
 | .cU _ x => (aK s x).ad
 | .fM _ ps => I.eE (ps.map fun p => aK s p.2)
 | .eD _ _ ps => I.eE (ps.map fun p => aK s p.2)
 | .fU _ x y => (aK s x).ad ++ (aK s y).ad
 | .lI _ x _ => (aK s x).ad
 | .pG x => (aK s x).ad
 | .fl _ x _ _ => (aK s x).ad
 | .app _ _ x y => (aK s x).ad ++ (aK s y).ad
 | .shr bG => dt s bG
 | _ => []
def dJ (bF : List Nat) (aA s : ao) : Prop := ∀ u ∈ bF, aA u = s u
theorem dJ.left {bF V : List Nat} {aA s : ao} (h : dJ (bF ++ V) aA s) : dJ bF aA s := fun u hu => h u (List.mem_append_left _ hu)
theorem dJ.right {bF V : List Nat} {aA s : ao} (h : dJ (bF ++ V) aA s) : dJ V aA s := fun u hu => h u (List.mem_append_right _ hu)
theorem dJ.dy {bF : List Nat} {aA s : ao} (h : dJ bF aA s) (ms : List gR) : dJ bF (dy ms aA) (dy ms s) := fun u hu => P9 (h u hu)
theorem dJ.sub {bF V : List Nat} {aA s : ao} (h : dJ bF aA s) (ad : ∀ u ∈ V, u ∈ bF) : dJ V aA s := fun u hu => h u (ad u hu)
theorem aF.rI {s : ao} {x : aF} : ∀ u ∈ (aK s x).ad, u ∈ x.use s := by
 intro u hu
 cases x with
 | t n =>
   simp only [aK, jy] at hu
   split at hu
   ·simp [aF.use, hu]
   ·simp only [I.ad, List.mem_singleton] at hu; simp [aF.use, hu]
 | c av => exact hu
 | f g => simp [aK, I.ad, I.eE] at hu
theorem aF.fY {s aA : ao} {x : aF} (h : dJ (x.use s) aA s) : aK aA x = aK s x := by
 cases x with
 | t n => simp only [aK]; rw [h n (by simp [aF.use])]
 | c av => rfl
 | f g => rfl
theorem dJ.aK {s aA : ao} {x : aF} (h : dJ (x.use s) aA s) : dJ (aK s x).ad aA s := h.sub aF.rI
theorem H0 {s aA : ao} {x : Option aF} (h : dJ (Dk s x) aA s) : x.map (aK aA) = x.map (aK s) := by
 cases x with
 | none => rfl
 | some x => simp only [Option.map_some]; rw [aF.fY h]
theorem aF.Dl {s aA : ao} : ∀ {xs : List aF}, dJ (aF.nn s xs) aA s → xs.map (aK aA) = xs.map (aK s)
 | [], _ => rfl
 | x :: xs, h => by
   simp only [List.map_cons]
   rw [aF.fY (h.left), aF.Dl (h.right)]
theorem aF.Dm {s aA : ao} : ∀ {ps : List (Nat × aF)}, dJ (aF.nn s (ps.map (·.2))) aA s → (ps.map fun p => (p.1, aK aA p.2)) = ps.map fun p => (p.1, aK s p.2)
 | [], _ => rfl
 | x :: xs, h => by
   simp only [List.map_cons] at h ⊢
   rw [aF.fY (h.left), aF.Dm (h.right)]
theorem aF.yT {s : ao} : ∀ {xs : List aF}, ∀ u ∈ I.eE (xs.map (aK s)), u ∈ aF.nn s xs
 | [], u, h => by simp [I.eE] at h
 | x :: xs, u, h => by
   simp only [List.map_cons, I.eE, List.mem_append] at h
   simp only [aF.nn, List.mem_append]
   exact h.imp (aF.rI u) (aF.yT u)
section
variable {C : ck} {s aA : ao} {x y i : I} {T A B : TypeId}
theorem Dn (h : dJ x.ad aA s) : loc aA x = loc s x := by
 cases x <;> first
  | rfl
  | (simp only [loc]; rw [h _ (by simp [I.ad])])
theorem Dp {z : Nat} {q : List Nat} (h : loc s x = some (z, q)) : z ∈ x.ad := by
 cases x with
 | h y p =>
   simp only [loc] at h
   split at h
   ·simp only [Option.some.injEq, Prod.mk.injEq] at h; simp [I.ad, h.1]
   ·cases h
 | ar y p =>
   simp only [loc] at h
   split at h
   ·simp only [Option.some.injEq, Prod.mk.injEq] at h; simp [I.ad, h.1]
   ·cases h
 | _ => simp [loc] at h
theorem Qa (h : dJ x.ad aA s) : b4 C aA T x = b4 C s T x := by
 have aR := Dn h
 unfold b4
 split
 ·rfl
 ·rw [h _ (by simp [I.ad])]
 ·rw [aR]
  split
  ·rename_i e
   rw [h _ (Dp e)]
  ·rfl
theorem Qb {k : Nat} (h : dJ x.ad aA s) : cB C aA T x k = cB C s T x k := by
 have aR := Dn h
 unfold cB
 split
 ·split
  ·split
   ·split
    ·rfl
    ·rw [h _ (by simp [I.ad])]
    ·rw [aR]
     split
     ·rename_i e
      rw [h _ (Dp e)]
     ·rfl
   ·rfl
  ·rfl
 ·rfl
theorem Qc (h : dJ x.ad aA s) : e6 C aA T x i = e6 C s T x i := by
 cases x <;> first
  | rfl
  | (simp only [e6]; rw [h _ (by simp [I.ad])])
theorem Qd (h : dJ x.ad aA s) : lJ C aA T x = lJ C s T x := by
 unfold lJ
 cases (C.T T).k <;> cases x <;> first
  | rfl
  | (simp only; rw [h _ (by simp [I.ad])])
theorem Qe (h : dJ x.ad aA s) : fW C aA A B x = fW C s A B x := by
 unfold fW
 cases (C.T B).k <;> cases x <;> first
  | rfl
  | (simp only; rw [h _ (by simp [I.ad])])
theorem Qf (h : dJ x.ad aA s) : k1 aA x = k1 s x := by
 cases x <;> first
  | rfl
  | (simp only [k1]; rw [h _ (by simp [I.ad])])
theorem Qg (h : dJ x.ad aA s) : k2 aA x = k2 s x := by
 cases x <;> first
  | rfl
  | (simp only [k2]; rw [h _ (by simp [I.ad])])
theorem Qh {op : BinOp} (h : dJ x.ad aA s) : b1 C aA op T x y = b1 C s op T x y := by
 have ag := Qf h
 have ah := Qg h
 unfold b1
 split <;> first | rfl | simp only [ag, ah]
theorem Qi (h : dJ x.ad aA s) : fC aA x = fC s x := by
 cases x <;> first
  | rfl
  | (simp only [fC]; rw [h _ (by simp [I.ad])])
theorem Qj {k y : Nat} {q : List Nat} (h : lI C s T x k = some (.h y q)) : x.ad = [y] := by
 unfold lI at h
 split at h <;> try (cases h; done)
 split at h <;> try (cases h; done)
 split at h
 ·split at h <;> try (cases h; done)
  split at h
  ·rename_i aw
   simp only [Option.some.injEq] at h
   rw [h] at aw
   exact absurd aw.2.2.2 (by simp [I.tree])
  ·cases h
 ·split at h <;> try (cases h; done)
  split at h <;> try (cases h; done)
  split at h <;> try (cases h; done)
  rename_i d ai aw
  by_cases ar : d.plain = true
  ·simp only [ar, if_true, Option.some.injEq] at h
   rw [h] at aw
   exact absurd aw.2.2.2 (by simp [I.tree])
  ·simp only [ar, Option.some.injEq] at h
   injection h with ag ah
   subst ag; rfl
 ·cases h
theorem H2 {k : Nat} (h : dJ x.ad aA s) : lI C aA T x k = lI C s T x k := by
 unfold lI
 split <;> try rfl
 split <;> try rfl
 cases x <;> first
  | rfl
  | (simp only []; rw [h _ (by simp [I.ad])])
theorem Qk {k : Nat} (h : dJ x.ad aA s) : ex aA x k = ex s x k := by
 cases x <;> first
  | rfl
  | (simp only [ex]; rw [h _ (by simp [I.ad])])
theorem vW : ∀ (q : List Nat) (a d e : I), I.sub q a = some d → (d.plain = false ∨ q ≠ []) → (q = [] → e.ad = []) → (I.put q e a).ad = [] := by
 intro q a d e h ar he
 cases q with
 | nil => rw [I.put]; exact he rfl
 | cons k q =>
   cases a <;> first
    | (simp [I.sub] at h; done)
    | skip
   all_goals
    unfold I.put
    repeat' split
    all_goals first | rfl | (simp_all; done)
end
def Loc {α : Type} (bF tu : List Nat) (f : ao → Option (α × ao)) (s : ao) (av : α) (s1 : ao) : Prop :=
 ∃ ms, s1 = dy ms s ∧ (∀ m ∈ ms, m.x ∈ tu ∧ m.d.ad = []) ∧ ∀ aA, dJ bF aA s → f aA = some (av, dy ms aA)
theorem Loc.pure {α : Type} {bF tu : List Nat} {f : ao → Option (α × ao)} {s : ao} {av : α} (h : ∀ aA, dJ bF aA s → f aA = some (av, aA)) : Loc bF tu f s av s :=
 ⟨[], rfl, by simp, fun aA ad => h aA ad⟩
theorem Loc.mono {α : Type} {bF tu yU H3 : List Nat} {f : ao → Option (α × ao)} {s s1 : ao} {av : α} (h : Loc bF tu f s av s1) (oX : ∀ u ∈ bF, u ∈ yU) (l8 : ∀ u ∈ tu, u ∈ H3) : Loc yU H3 f s av s1 := by
 obtain ⟨ms, ag, ah, aI⟩ := h
 exact ⟨ms, ag, fun m hm => ⟨l8 _ (ah m hm).1, (ah m hm).2⟩, fun aA ad => aI aA (ad.sub oX)⟩
section
variable {C : ck} {s s1 : ao} {x y d : I} {T A B : TypeId}
theorem pH (h : cT s x = some (d, s1)) : Loc x.ad x.ad (fun s => cT s x) s d s1 := by
 cases x with
 | h y q =>
   simp only [cT] at h
   split at h
   ·rename_i e he
    split at h
    ·cases h
    ·rename_i ar
     simp only [Option.some.injEq, Prod.mk.injEq] at h
     obtain ⟨rfl, rfl⟩ := h
     have ar : e.plain = false := by simpa using ar
     refine ⟨[⟨.cd, y, I.put q e.de (s y)⟩], vT _ _ _, ?_, ?_⟩
     ·intro m hm
      simp only [List.mem_singleton] at hm; subst hm
      refine ⟨by simp [I.ad], vW q _ _ _ he (.inl ar) fun cv => ?_⟩
      subst cv
      cases e <;> first | (simp [I.plain] at ar; done) | rfl
     ·intro aA ad
      have aS : aA y = s y := ad y (by simp [I.ad])
      simp only [cT, aS, he, ar]
      rw [← vT]; rfl
   ·cases h
 | ar y q => simp [cT] at h
 | ab y q => simp [cT] at h
 | fn f c => simp [cT] at h
 | hole => simp [cT] at h
 | _ =>
   simp only [cT, Option.some.injEq, Prod.mk.injEq] at h
   obtain ⟨rfl, rfl⟩ := h
   exact .pure fun aA _ => rfl
mutual
theorem H4 (x : Nat) : ∀ a : I, ∀ u ∈ (cd x a).ad, u ∈ a.ad
 | .h y q, u, h => by
   simp only [cd] at h
   split at h
   ·split at h
    ·exact h
    ·simp [I.ad] at h
   ·exact h
 | .ar y q, u, h => by
   simp only [cd] at h
   split at h
   ·simp [I.ad] at h
   ·exact h
 | .ab y q, u, h => h
 | .fn f cap, u, h => by simp only [cd, I.ad] at h ⊢; exact H5 x cap u h
 | .hole, u, h => h
 | .bool _, u, h => h
 | .e_, u, h => h
 | .int _ _, u, h => h
 | .str _, u, h => h
 | .dv, u, h => h
 | .bp, u, h => h
 | .slice _, u, h => h
 | .aP _ _, u, h => h
 | .ref _, u, h => h
 | .a7 _, u, h => h
 | .agg _, u, h => h
 | .tuple _, u, h => h
theorem H5 (x : Nat) : ∀ ds : List I, ∀ u ∈ I.eE (iP x ds), u ∈ I.eE ds
 | [], u, h => h
 | d :: ds, u, h => by
   simp only [iP, I.eE, List.mem_append] at h ⊢
   exact h.imp (H4 x d u) (H5 x ds u)
end
theorem Dq (o : Option Nat) (a : I) : ∀ u ∈ (kG o a).ad, u ∈ a.ad := by
 intro u h
 cases o with
 | none => exact h
 | some x => exact H4 x a u h
theorem H6 : ∀ (os : List (Option Nat)) (a : I), ∀ u ∈ (nj os a).ad, u ∈ a.ad := by
 intro os
 induction os with
 | nil => intro a u h; exact h
 | cons o os ih => intro a u h; exact Dq o a u (ih (kG o a) u h)
theorem H7 {place : Nat → Option (Nat × Nat)} : ∀ {ps : List (Nat × I)} {s s1 : ao} {gY ds : List I} {os : List (Option Nat)}, eU place s gY os ps = some (ds, s1) →
  Loc (I.eE (ps.map (·.2))) (I.eE (ps.map (·.2))) (fun s => eU place s gY os ps) s ds s1 := by
 intro ps
 induction ps with
 | nil =>
   intro s s1 gY ds os h
   simp only [eU, Option.some.injEq, Prod.mk.injEq] at h
   obtain ⟨rfl, rfl⟩ := h
   exact .pure fun aA _ => rfl
 | cons p ps ih =>
   intro s s1 gY ds os h
   obtain ⟨k, a⟩ := p
   simp only [eU] at h
   split at h
   ·rename_i d s2 off n z bb fT b6
    split at h
    ·cases h
    ·rename_i bz mc
     split at h
     ·rename_i aw
      obtain ⟨n5, rfl, ah, aI⟩ := pH bb
      obtain ⟨rJ, rfl, bN, cQ⟩ := ih h
      refine ⟨n5 ++ rJ, (lp _ _ _).symm, ?_, ?_⟩
      ·intro m hm
       simp only [List.map_cons, I.eE, List.mem_append] at hm ⊢
       rcases hm with hm | hm
       ·exact ⟨.inl (H6 _ _ _ (ah m hm).1), (ah m hm).2⟩
       ·exact ⟨.inr (bN m hm).1, (bN m hm).2⟩
      ·intro aA ad
       simp only [List.map_cons, I.eE] at ad
       have aS := aI aA (ad.left.sub (H6 _ _))
       have aX := cQ (dy n5 aA) (ad.right.dy n5)
       simp only at aS aX
       simp only [eU, aS, fT, b6, lp]
       rw [if_pos aw]; exact aX
     ·cases h
   ·cases h
theorem Ql {ps : List (Nat × I)} {av : I} (h : fM C s T ps = some (av, s1)) : Loc (I.eE (ps.map (·.2))) (I.eE (ps.map (·.2))) (fun s => fM C s T ps) s av s1 := by
 unfold fM at h
 split at h
 ·rename_i ax gY az b6
  split at h
  ·rename_i aw
   split at h
   ·rename_i ds s2 br
    simp only [Option.some.injEq, Prod.mk.injEq] at h
    obtain ⟨rfl, rfl⟩ := h
    obtain ⟨ms, ag, ah, aI⟩ := H7 br
    refine ⟨ms, ag, ah, fun aA ad => ?_⟩
    have := aI aA ad
    simp only at this
    simp only [fM, az, b6, if_pos aw, this]
   ·cases h
  ·cases h
 ·cases h
theorem Qm {n : Nat} {ps : List (Nat × I)} {av : I} (h : eD C s T n ps = some (av, s1)) : Loc (I.eE (ps.map (·.2))) (I.eE (ps.map (·.2))) (fun s => eD C s T n ps) s av s1 := by
 unfold eD at h
 split at h
 ·rename_i e az
  split at h
  ·rename_i aw
   split at h
   ·rename_i ds s2 br
    simp only [Option.some.injEq, Prod.mk.injEq] at h
    obtain ⟨rfl, rfl⟩ := h
    obtain ⟨ms, ag, ah, aI⟩ := H7 br
    refine ⟨ms, ag, ah, fun aA ad => ?_⟩
    have := aI aA ad
    simp only at this
    simp only [eD, az, if_pos aw, this]
   ·cases h
  ·cases h
 ·cases h
theorem Qn {av : I} (h : cU s x = some (av, s1)) : Loc x.ad x.ad (fun s => cU s x) s av s1 := by
 unfold cU at h
 split at h
 ·cases h
 ·rename_i d s2 mc bb
  simp only [Option.some.injEq, Prod.mk.injEq] at h
  obtain ⟨rfl, rfl⟩ := h
  obtain ⟨ms, ag, ah, aI⟩ := pH bb
  refine ⟨ms, ag, ah, fun aA ad => ?_⟩
  have := aI aA ad
  simp only at this
  simp only [cU, this]
 ·cases h
theorem Qo {av : I} (h : kZ s x = some (av, s1)) : Loc x.ad [] (fun s => kZ s x) s av s1 := by
 unfold kZ at h
 split at h
 ·rename_i y q
  split at h
  ·rename_i ds mA
   split at h
   ·cases h
   ·rename_i vu
    simp only [Option.some.injEq, Prod.mk.injEq] at h
    obtain ⟨rfl, rfl⟩ := h
    refine .pure fun aA ad => ?_
    have e : aA y = s y := ad y (by simp [I.ad])
    simp only [kZ, e, mA, if_neg vu]
  ·cases h
 ·split at h
  ·rename_i aw
   simp only [Option.some.injEq, Prod.mk.injEq] at h
   obtain ⟨rfl, rfl⟩ := h
   exact .pure fun aA ad => by simp only [kZ, aw, if_true]
  ·cases h
 ·cases h
theorem Qp {s2 : ao} (h : fU C s T x y = some s2) : Loc (x.ad ++ y.ad) (x.ad ++ y.ad) (fun s => (fU C s T x y).map fun s1 => (I.hole, s1)) s .hole s2 := by
 unfold fU at h
 split at h
 ·rename_i d s1 z q bb aR
  obtain ⟨ms, ag, ah, aI⟩ := pH bb
  have b6 := Dp aR
  have cv : q ≠ [] := by
   cases x with
   | h y p =>
     simp only [loc] at aR
     split at aR
     ·simp only [Option.some.injEq, Prod.mk.injEq] at aR; simp [← aR.2]
     ·cases aR
   | ar y p =>
     simp only [loc] at aR
     split at aR
     ·rename_i nW
      simp only [Option.some.injEq, Prod.mk.injEq] at aR
      obtain ⟨rfl, rfl⟩ := aR
      intro e; subst e; simp [I.ft] at nW
     ·cases aR
   | _ => simp [loc] at aR
  split at h
  ·cases h
  ·rename_i bz mc
   split at h
   ·rename_i d0 kH
    split at h
    ·rename_i aw
     simp only [Option.some.injEq] at h; subst h
     refine ⟨ms ++ [⟨.cd, z, I.put q d (s z)⟩], ?_, ?_, ?_⟩
     ·rw [lp, ← ag, vT]
     ·intro m hm
      simp only [List.mem_append, List.mem_singleton] at hm ⊢
      rcases hm with hm | rfl
      ·exact ⟨.inr (ah m hm).1, (ah m hm).2⟩
      ·exact ⟨.inl b6, vW q _ _ _ kH (.inr cv) fun e => (cv e).elim⟩
     ·intro aA ad
      have aS := aI aA ad.right
      simp only at aS
      simp only [fU, aS, Dn ad.left, aR, ad.left z b6, kH]
      cases d <;> first | (simp only [if_pos aw, Option.map_some, lp, vT]; done) | exact (mc _ rfl).elim
    ·cases h
   ·cases h
 ·cases h
theorem Qq {dc al : Option I} {av : I} (h : fl C s T x dc al = some (av, s1)) : Loc x.ad x.ad (fun s => fl C s T x dc al) s av s1 := by
 cases x with
 | h y q =>
   unfold fl at h
   split at h <;> first | (cases h; done) | skip
   all_goals (rename_i aq; try cases aq)
   rename_i e az
   split at h
   ·rename_i sz xs fh
    split at h
    ·rename_i b nc nd
     split at h
     ·rename_i aw
      split at h
      ·rename_i d s2 bb
       simp only [Option.some.injEq, Prod.mk.injEq] at h
       obtain ⟨rfl, rfl⟩ := h
       obtain ⟨ms, ag, ah, aI⟩ := pH bb
       refine ⟨ms, ag, ah, fun aA ad => ?_⟩
       have := aI aA ad
       simp only at this
       have aS : aA y = s y := ad y (by simp [I.ad])
       simp only [fl, az, aS, fh, nc, nd, if_pos aw, this]
      ·cases h
     ·cases h
    ·cases h
   ·cases h
 | _ =>
   have pI : s1 = s := by
    unfold fl at h
    repeat' split at h
    all_goals first | (cases h; done) | (simp only [Option.some.injEq, Prod.mk.injEq] at h; exact h.2.symm) | simp_all
   subst pI
   refine .pure fun aA _ => ?_
   unfold fl at h ⊢
   repeat' split at h
   all_goals first
    | (cases h; done)
    | (simp only [Option.some.injEq, Prod.mk.injEq] at h
       obtain ⟨rfl, _⟩ := h
       simp_all)
def o2 (C : ck) (e : TypeId) (s : ao) : I → Option (I × ao)
 | .bp => some (I.aP (C.T e).sz [], s)
 | .h a q => cT s (.h a q)
 | _ => none
def k6 (s1 : ao) : I → Option (List I × ao)
 | .bp => some ([], s1)
 | .slice cn => some (cn, s1)
 | .str l => some (l.map gl, s1)
 | .h a q => match cT s1 (.h a q) with
   | some (.aP _ cn, s2) => some (cn, s2)
   | _ => none
 | _ => none
theorem Dr (C : ck) (s : ao) (T bF : TypeId) (x y : I) : lL C s T bF x y = (match (C.T T).k with
 | .slice e => if (C.T e).ok = true ∧ (C.T e).zero.wd = (C.T e).sz ∧ (flat (C.T e).zero).isSome = true ∧ yM C e bF = true then
   match o2 C e s x with
   | some (.aP sz xs, s1) => if sz = (C.T e).sz then
     match k6 s1 (kG x.owner y) with
     | some (cn, s2) => if (∀ d ∈ cn, d.wd = (C.T e).sz) ∧ (xs.length + cn.length) * (C.T e).bytes ≤ 140737488355328 ∧ xs.length + cn.length ≤ 9223372036854775807 then some (.aP sz (xs ++ cn), s2) else none
     | none => none
     else none
   | _ => none
   else none
 | _ => none) := by
 unfold lL
 generalize kG x.owner y = kq
 cases (C.T T).k <;> first
  | rfl
  | (cases x <;> cases kq <;> rfl)
theorem Qr {e : TypeId} {d : I} (ag : o2 C e s x = some (d, s1)) : Loc x.ad x.ad (fun s => o2 C e s x) s d s1 := by
 cases x with
 | bp =>
   simp only [o2, Option.some.injEq, Prod.mk.injEq] at ag
   obtain ⟨ag, rfl⟩ := ag
   exact .pure fun aA _ => by simp only [o2, ag]
 | h a q => exact pH ag
 | _ => simp [o2] at ag
theorem Qs {cn : List I} (ah : k6 s y = some (cn, s1)) : Loc y.ad y.ad (fun s => k6 s y) s cn s1 := by
 cases y with
 | bp =>
   simp only [k6, Option.some.injEq, Prod.mk.injEq] at ah
   obtain ⟨rfl, rfl⟩ := ah
   exact .pure fun aA _ => rfl
 | slice cn =>
   simp only [k6, Option.some.injEq, Prod.mk.injEq] at ah
   obtain ⟨rfl, rfl⟩ := ah
   exact .pure fun aA _ => rfl
 | str l =>
   simp only [k6, Option.some.injEq, Prod.mk.injEq] at ah
   obtain ⟨rfl, rfl⟩ := ah
   exact .pure fun aA _ => rfl
 | h a q =>
   simp only [k6] at ah
   split at ah
   ·rename_i PJ awL hl bb
    simp only [Option.some.injEq, Prod.mk.injEq] at ah
    obtain ⟨rfl, rfl⟩ := ah
    obtain ⟨ms, g1, g2, g3⟩ := pH bb
    refine ⟨ms, g1, g2, fun aA ad => ?_⟩
    have := g3 aA ad
    simp only at this
    simp only [k6, this]
   ·cases ah
 | _ => simp [k6] at ah
theorem Qt {av : I} (h : lL C s T A x y = some (av, s1)) : Loc (x.ad ++ y.ad) (x.ad ++ y.ad) (fun s => lL C s T A x y) s av s1 := by
 rw [Dr] at h
 split at h
 ·rename_i e az
  split at h
  ·rename_i aw
   split at h
   ·rename_i sz xs s2 ag
    split at h
    ·rename_i eH
     split at h
     ·rename_i cn fb ah
      split at h
      ·rename_i l9
       simp only [Option.some.injEq, Prod.mk.injEq] at h
       obtain ⟨rfl, rfl⟩ := h
       obtain ⟨n5, rfl, a2, a3⟩ := Qr ag
       obtain ⟨rJ, rfl, iS, kr⟩ := (Qs ah).mono (Dq _ _) (Dq _ _)
       refine ⟨n5 ++ rJ, (lp _ _ _).symm, ?_, ?_⟩
       ·intro m hm
        simp only [List.mem_append] at hm ⊢
        rcases hm with hm | hm
        ·exact ⟨.inl (a2 m hm).1, (a2 m hm).2⟩
        ·exact ⟨.inr (iS m hm).1, (iS m hm).2⟩
       ·intro aA ad
        have aS := a3 aA ad.left
        have aX := kr (dy n5 aA) (ad.right.dy n5)
        simp only at aS aX
        simp only [Dr, az, if_pos aw, aS, if_pos eH, aX, if_pos l9, lp]
      ·cases h
     ·cases h
    ·cases h
   ·cases h
  ·cases h
 ·cases h
theorem H8 {bG : fX} {av : I} (h : bI C s bG = some (av, s1)) : Loc (use s bG) (dt s bG) (fun s => bI C s bG) s av s1 := by
 cases bG with
 | shr bG => simp [bI] at h
 | l_ f args u x => simp [bI] at h
 | ma f args L => simp [bI] at h
 | pG x =>
   simp only [bI] at h
   unfold o0 at h
   split at h
   ·rename_i y q aq
    obtain ⟨ms, ag, ah, aI⟩ := pH h
    refine ⟨ms, ag, by simpa only [dt, aq] using ah, fun aA ad => ?_⟩
    have e := aF.fY (x := x) ad
    have aX := aI aA (by rw [← aq]; exact dJ.aK ad)
    simp only [bI, e, aq, o0]
    exact aX
   ·rename_i H9
    simp only [Option.some.injEq, Prod.mk.injEq] at h
    obtain ⟨rfl, rfl⟩ := h
    refine .pure fun aA ad => ?_
    have e := aF.fY (x := x) ad
    simp only [bI, e, o0]
 | qv x =>
   simp only [bI, Option.some.injEq, Prod.mk.injEq] at h
   obtain ⟨rfl, rfl⟩ := h
   exact .pure fun aA ad => by simp only [bI, aF.fY (x := x) ad]
 | kZ T x =>
   obtain ⟨ms, ag, ah, aI⟩ := Qo h
   refine ⟨ms, ag, ah, fun aA ad => ?_⟩
   simp only [bI, aF.fY (x := x) ad]
   exact aI aA (dJ.aK ad)
 | ni T bF x y =>
   simp only [bI, Option.map_eq_some_iff, Prod.mk.injEq] at h
   obtain ⟨d, ai, rfl, rfl⟩ := h
   exact .pure fun aA ad => by
    simp only [use] at ad
    simp only [bI, aF.fY (x := x) ad.left, aF.fY (x := y) ad.right, ai, Option.map_some]
 | bad => simp [bI] at h
 | oZ hJ x y =>
   simp only [bI, Option.map_eq_some_iff, Prod.mk.injEq] at h
   obtain ⟨d, ai, rfl, rfl⟩ := h
   exact .pure fun aA ad => by
    simp only [use] at ad
    simp only [bI, aF.fY (x := x) ad.left, aF.fY (x := y) ad.right, ai, Option.map_some]
 | cap T x =>
   simp only [bI] at h
   split at h
   ·rename_i e az aq
    simp only [Option.some.injEq, Prod.mk.injEq] at h
    obtain ⟨rfl, rfl⟩ := h
    exact .pure fun aA ad => by simp only [bI, aF.fY (x := x) ad, az, aq]
   ·cases h
 | cj x =>
   simp only [bI, Option.some.injEq, Prod.mk.injEq] at h
   obtain ⟨rfl, rfl⟩ := h
   exact .pure fun aA ad => by simp only [bI, aF.fY (x := x) ad]
 | fN x =>
   simp only [bI] at h
   split at h
   ·rename_i y q aq
    obtain ⟨ms, ag, ah, aI⟩ := pH h
    refine ⟨ms, ag, by simpa only [dt, aq] using ah, fun aA ad => ?_⟩
    have e := aF.fY (x := x) ad
    have aX := aI aA (by rw [← aq]; exact dJ.aK ad)
    simp only [bI, e, aq]
    exact aX
   ·rename_i H9
    simp only [Option.some.injEq, Prod.mk.injEq] at h
    obtain ⟨rfl, rfl⟩ := h
    refine .pure fun aA ad => ?_
    have e := aF.fY (x := x) ad
    simp only [bI, e]
 | pick c a b =>
   simp only [bI] at h
   split at h
   ·rename_i fJ ab
    simp only [Option.some.injEq, Prod.mk.injEq] at h
    obtain ⟨rfl, rfl⟩ := h
    refine .pure fun aA ad => ?_
    simp only [use] at ad
    simp only [bI, aF.fY (x := c) ad.left, aF.fY (x := a) ad.right.left, aF.fY (x := b) ad.right.right, ab]
   ·cases h
 | gL T =>
   simp only [bI, Option.map_eq_some_iff, Prod.mk.injEq] at h
   obtain ⟨d, ai, rfl, rfl⟩ := h
   exact .pure fun aA ad => by simp only [bI, ai, Option.map_some]
 | cU T x =>
   obtain ⟨ms, ag, ah, aI⟩ := Qn h
   refine ⟨ms, ag, ah, fun aA ad => ?_⟩
   simp only [bI, aF.fY (x := x) ad]
   exact aI aA (dJ.aK ad)
 | fM T ps =>
   obtain ⟨ms, ag, ah, aI⟩ := Ql h
   simp only [List.map_map, Function.comp_def] at ah aI
   refine ⟨ms, ag, ah, fun aA ad => ?_⟩
   simp only [bI, aF.Dm (ps := ps) ad]
   refine aI aA (ad.sub fun u hu => ?_)
   simp only [use]
   exact aF.yT u (by simpa [List.map_map, Function.comp_def] using hu)
 | eD T n ps =>
   obtain ⟨ms, ag, ah, aI⟩ := Qm h
   simp only [List.map_map, Function.comp_def] at ah aI
   refine ⟨ms, ag, ah, fun aA ad => ?_⟩
   simp only [bI, aF.Dm (ps := ps) ad]
   refine aI aA (ad.sub fun u hu => ?_)
   simp only [use]
   exact aF.yT u (by simpa [List.map_map, Function.comp_def] using hu)
 | b4 T x =>
   simp only [bI, Option.map_eq_some_iff, Prod.mk.injEq] at h
   obtain ⟨d, ai, rfl, rfl⟩ := h
   exact .pure fun aA ad => by simp only [bI, aF.fY (x := x) ad, Qa (dJ.aK ad), ai, Option.map_some]
 | fU T x y =>
   simp only [bI, Option.map_eq_some_iff, Prod.mk.injEq] at h
   obtain ⟨s2, ai, rfl, rfl⟩ := h
   obtain ⟨ms, ag, ah, aI⟩ := Qp ai
   refine ⟨ms, ag, ah, fun aA ad => ?_⟩
   simp only [use] at ad
   simp only [bI, aF.fY (x := x) ad.left, aF.fY (x := y) ad.right]
   exact aI aA (ad.sub fun u hu => by simp only [List.mem_append] at hu ⊢; exact hu.imp (aF.rI u) (aF.rI u))
 | fC x =>
   simp only [bI, Option.map_eq_some_iff, Prod.mk.injEq] at h
   obtain ⟨d, ai, rfl, rfl⟩ := h
   exact .pure fun aA ad => by simp only [bI, aF.fY (x := x) ad, Qi (dJ.aK ad), ai, Option.map_some]
 | b1 op T x y =>
   simp only [bI, Option.map_eq_some_iff, Prod.mk.injEq] at h
   obtain ⟨d, ai, rfl, rfl⟩ := h
   refine .pure fun aA ad => ?_
   simp only [use] at ad
   simp only [bI, aF.fY (x := x) ad.left, aF.fY (x := y) ad.right, Qh (dJ.aK ad.left), ai, Option.map_some]
 | un op x =>
   simp only [bI, Option.map_eq_some_iff, Prod.mk.injEq] at h
   obtain ⟨d, ai, rfl, rfl⟩ := h
   exact .pure fun aA ad => by simp only [bI, aF.fY (x := x) ad, ai, Option.map_some]
 | fW A B x =>
   simp only [bI, Option.map_eq_some_iff, Prod.mk.injEq] at h
   obtain ⟨d, ai, rfl, rfl⟩ := h
   exact .pure fun aA ad => by simp only [bI, aF.fY (x := x) ad, Qe (dJ.aK ad), ai, Option.map_some]
 | il f cs =>
   simp only [bI, Option.some.injEq, Prod.mk.injEq] at h
   obtain ⟨rfl, rfl⟩ := h
   exact .pure fun aA ad => by simp only [bI, aF.Dl (xs := cs) ad]
 | er T l c =>
   simp only [bI, Option.map_eq_some_iff, Prod.mk.injEq] at h
   obtain ⟨d, ai, rfl, rfl⟩ := h
   refine .pure fun aA ad => ?_
   simp only [use] at ad
   simp only [bI, aF.fY (x := l) ad.left, aF.fY (x := c) ad.right, ai, Option.map_some]
 | fl T x dc al =>
   simp only [bI] at h
   obtain ⟨ms, ag, ah, aI⟩ := Qq h
   refine ⟨ms, ag, ah, fun aA ad => ?_⟩
   simp only [use] at ad
   simp only [bI, aF.fY (x := x) ad.left, H0 ad.right.left, H0 ad.right.right]
   exact aI aA (dJ.aK ad.left)
 | cB T x k =>
   simp only [bI, Option.map_eq_some_iff, Prod.mk.injEq] at h
   obtain ⟨d, ai, rfl, rfl⟩ := h
   exact .pure fun aA ad => by simp only [bI, aF.fY (x := x) ad, Qb (dJ.aK ad), ai, Option.map_some]
 | e6 T x i =>
   simp only [bI, Option.map_eq_some_iff, Prod.mk.injEq] at h
   obtain ⟨d, ai, rfl, rfl⟩ := h
   refine .pure fun aA ad => ?_
   simp only [use] at ad
   simp only [bI, aF.fY (x := x) ad.left, aF.fY (x := i) ad.right, Qc (dJ.aK ad.left), ai, Option.map_some]
 | idx T x i =>
   simp only [bI, Option.map_eq_some_iff, Prod.mk.injEq] at h
   obtain ⟨d, ai, rfl, rfl⟩ := h
   refine .pure fun aA ad => ?_
   simp only [use] at ad
   simp only [bI, aF.fY (x := x) ad.left, aF.fY (x := i) ad.right, ai, Option.map_some]
 | ex x k =>
   simp only [bI, Option.map_eq_some_iff, Prod.mk.injEq] at h
   obtain ⟨d, ai, rfl, rfl⟩ := h
   exact .pure fun aA ad => by simp only [bI, aF.fY (x := x) ad, Qk (dJ.aK ad), ai, Option.map_some]
 | lI T x k =>
   simp only [bI, Option.bind_eq_some_iff] at h
   obtain ⟨d, ai, h⟩ := h
   unfold o0 at h
   split at h
   ·rename_i y q
    have aq := Qj ai
    obtain ⟨ms, ag, ah, aI⟩ := pH h
    refine ⟨ms, ag, by simpa only [dt, aq, I.ad] using ah, fun aA ad => ?_⟩
    have aX := aI aA (by rw [show (I.h y q).ad = (aK s x).ad from aq.symm]; exact dJ.aK ad)
    simp only [bI, aF.fY (x := x) ad, H2 (dJ.aK ad), ai, Option.bind_some, o0]
    exact aX
   ·rename_i H9
    simp only [Option.some.injEq, Prod.mk.injEq] at h
    obtain ⟨rfl, rfl⟩ := h
    refine .pure fun aA ad => ?_
    simp only [bI, aF.fY (x := x) ad, H2 (dJ.aK ad), ai, Option.bind_some, o0]
 | call f args => simp [bI] at h
 | len T x =>
   simp only [bI, Option.map_eq_some_iff, Prod.mk.injEq] at h
   obtain ⟨d, ai, rfl, rfl⟩ := h
   exact .pure fun aA ad => by simp only [bI, aF.fY (x := x) ad, Qd (dJ.aK ad), ai, Option.map_some]
 | app T bF x y =>
   obtain ⟨ms, ag, ah, aI⟩ := Qt h
   refine ⟨ms, ag, ah, fun aA ad => ?_⟩
   simp only [use] at ad
   simp only [bI, aF.fY (x := x) ad.left, aF.fY (x := y) ad.right]
   exact aI aA (ad.sub fun u hu => by simp only [List.mem_append] at hu ⊢; exact hu.imp (aF.rI u) (aF.rI u))
end
def I.one : I → Bool
 | .agg _ => false
 | .tuple _ => false
 | _ => true
mutual
def view (s : ao) : I → Option I
 | .h x q => match I.sub q (s x) with
   | some d => (match d with | .tuple _ => none | d => if d.plain then none else some d.share)
   | none => none
 | .ar x q => if I.ft q (s x) then (match I.sub q (s x) with
   | some d => (match d with | .tuple _ => none | d => some (.ref d.share))
   | none => none) else none
 | .ab _ _ => none
 | .fn f cap => (views s cap).map (.fn f)
 | .hole => none
 | d => some d
def views (s : ao) : List I → Option (List I)
 | [] => some []
 | d :: ds => match view s d, views s ds with
   | some a, some b => some (a :: b)
   | _, _ => none
end
mutual
theorem Ds : ∀ d : I, d.share.plain = true
 | .hole => rfl
 | .bool _ => rfl
 | .e_ => rfl
 | .int _ _ => rfl
 | .str _ => rfl
 | .dv => rfl
 | .bp => rfl
 | .slice _ => rfl
 | .aP _ _ => rfl
 | .ref _ => rfl
 | .a7 _ => rfl
 | .agg ax => by simp only [I.share, I.plain]; exact Dt ax
 | .tuple ax => by simp only [I.share, I.plain]; exact Dt ax
 | .fn _ _ => rfl
 | .h _ _ => rfl
 | .ar _ _ => rfl
 | .ab _ _ => rfl
theorem Dt : ∀ ds : List I, I.gh (I.shares ds) = true
 | [] => rfl
 | d :: ds => by simp only [I.shares, I.gh]; rw [Ds d, Dt ds]; rfl
end
theorem Qu {s : ao} {a d : I} (h : a.plain = true) (he : view s a = some d) : d.plain = true := by
 cases a with
 | h x q =>
   simp only [view] at he
   split at he
   ·rename_i e fh
    cases e <;> simp only at he <;> first
     | (cases he; done)
     | (split at he
        ·cases he
        ·simp only [Option.some.injEq] at he
         subst he; exact Ds _)
   ·cases he
 | ar x q =>
   simp only [view] at he
   split at he
   ·split at he
    ·rename_i e fh
     cases e <;> simp only at he <;> first
      | (cases he; done)
      | (simp only [Option.some.injEq] at he; subst he; rfl)
    ·cases he
   ·cases he
 | fn f cap =>
   simp only [view, Option.map_eq_some_iff] at he
   obtain ⟨ds, _, rfl⟩ := he
   rfl
 | hole => simp [view] at he
 | ab y q => simp [view] at he
 | _ => simp only [view, Option.some.injEq] at he; subst he; exact h
theorem Du {d : I} {v : Value} (ag : ∀ vs, d ≠ .tuple vs) (h : eo d v) : eo d.share v := by
 cases d <;> first | exact h | exact (ag _ rfl).elim
theorem Qv (w : World) : ∀ (q : List Nat) (av d bz : I) (cs c6 : List Value) (a cK : Option (Nat × Nat)), I.sub q av = some d → bz.wd = d.wd → dp w q av cs a = some (d, c6, cK) →
  dp w q (I.put q bz av) cs a = some (bz, c6, cK) := by
 intro q
 induction q with
 | nil =>
   intro av d bz cs c6 a cK ai hw h
   simp only [dp, Option.some.injEq, Prod.mk.injEq] at h
   obtain ⟨rfl, rfl, rfl⟩ := h
   simp only [I.put, dp]
 | cons k q ih =>
   intro av d bz cs c6 a cK ai hw h
   cases av with
   | agg ax =>
     simp only [I.sub] at ai
     split at ai
     ·rename_i x aq
      have az : k < ax.length := (List.getElem?_eq_some_iff.1 aq).1
      simp only [dp, aq] at h
      simp only [I.put, aq, dp]
      rw [List.getElem?_set_self az]
      simp only [List.take_set_of_le (Nat.le_refl k), I.ta q x d bz ai hw]
      exact ih _ _ _ _ _ _ _ ai hw h
     ·cases ai
   | tuple ax =>
     simp only [I.sub] at ai
     split at ai
     ·rename_i x aq
      have az : k < ax.length := (List.getElem?_eq_some_iff.1 aq).1
      simp only [dp, aq] at h
      simp only [I.put, aq, dp]
      rw [List.getElem?_set_self az]
      simp only [List.take_set_of_le (Nat.le_refl k), I.ta q x d bz ai hw]
      exact ih _ _ _ _ _ _ _ ai hw h
     ·cases ai
   | aP sz ax =>
     simp only [I.sub] at ai
     split at ai
     ·rename_i x aq
      have az : k < ax.length := (List.getElem?_eq_some_iff.1 aq).1
      have kI : (ax.set k (I.put q bz x))[k]? = some (I.put q bz x) := List.getElem?_set_self az
      simp only [I.put, aq]
      rw [dp.eq_def] at h ⊢
      simp only [aq] at h
      simp only
      rw [kI]
      split at h
      ·rename_i aS
       simp only [Option.some.injEq] at aS; subst aS
       exact ih _ _ _ _ _ _ _ ai hw h
      ·cases h
     ·cases ai
   | a7 x =>
     cases k with
     | zero =>
       simp only [I.sub] at ai
       rw [dp.eq_def] at h ⊢
       simp only at h
       simp only [I.put]
       split at h
       ·rw [I.ta q x d bz ai hw]
        exact ih _ _ _ _ _ _ _ ai hw h
       ·cases h
     | succ k => simp [I.sub] at ai
   | _ => simp [I.sub] at ai
section
variable {w0 w aL : World} {F0 X F Fc : Nat → Prop} {S : Nat → Nat → Prop} {s aA : ao} {aB j_ : Nat → Value}
theorem Qw (h : bP w0 F0 X F S s aB w) (bu : ∀ b, F b → Fc b) : ∀ n,
  (∀ (a : I) (v : Value) (d : I), SizeOf.sizeOf a ≤ n → (∀ t ∈ a.ad, ∀ b, S t b → Fc b) → view s a = some d → aG w F s aB a v (fun _ => False) → aG w Fc aA j_ d v (fun _ => False)) ∧
  (∀ (as : List I) (vs : List Value) (ds : List I), SizeOf.sizeOf as ≤ n → (∀ t ∈ I.eE as, ∀ b, S t b → Fc b) → views s as = some ds → ei w F s aB as vs → ei w Fc aA j_ ds vs) := by
 intro n
 induction n with
 | zero => exact ⟨fun a _ _ b6 => by cases a <;> simp at b6 <;> omega, fun as _ _ b6 => by cases as <;> simp at b6 <;> omega⟩
 | succ n ih =>
   refine ⟨fun a v d b6 b8 he aN => ?_, fun as vs ds b6 b8 he aN => ?_⟩
   ·cases a with
    | h x q =>
      simp only [view] at he
      split at he
      ·rename_i e fh
       have key : (∀ ax, e ≠ .tuple ax) ∧ e.plain = false ∧ d = e.share := by
        cases e <;> simp only at he <;> first
         | (cases he; done)
         | (split at he
            ·cases he
            ·rename_i fT
             simp only [Option.some.injEq] at he
             exact ⟨(fun _ h => by cases h), by simpa using fT, he.symm⟩)
       obtain ⟨mc, fT, rfl⟩ := key
       rw [aG] at aN
       obtain ⟨c6, cK, g1, g2, g3⟩ := aN e fh fT
       have bb := iI fh (.inl fT)
       have aq := (aG.cJ bb).1 (h.dC x)
       obtain ⟨gd, a2, eR, hh, k0, bU, cb, e5, dX, fB⟩ := ctx q (s x) (cr (aB x)) (S x) none e aq.2 fh
       rw [g1] at k0
       simp only [Option.some.injEq, Prod.mk.injEq, true_and] at k0
       obtain ⟨rfl, rfl⟩ := k0
       have CM : e.share.tree = true := by cases e <;> first | rfl | (simp [I.plain] at fT)
       have aV := au.shared bu e c6 hh (fun b ab => b8 x (by simp [I.ad]) b (cb b ab)) dX
       exact (aG.cJ CM).2 ⟨Du mc g3, by rw [g2]; exact aV⟩
      ·cases he
    | ar x q =>
      simp only [view] at he
      split at he
      ·rename_i nW
       split at he
       ·rename_i e fh
        have key : (∀ ax, e ≠ .tuple ax) ∧ d = .ref e.share := by
         cases e <;> simp only at he <;> first
          | (cases he; done)
          | (simp only [Option.some.injEq] at he; exact ⟨(fun _ h => by cases h), he.symm⟩)
        obtain ⟨mc, rfl⟩ := key
        rw [aG] at aN
        obtain ⟨c6, b, o, g1, rfl⟩ := aN e fh nW
        have bb := iI fh (.inr nW)
        have aq := (aG.cJ bb).1 (h.dC x)
        obtain ⟨gd, a2, eR, hh, k0, bU, cb, e5, dX, fB⟩ := ctx q (s x) (cr (aB x)) (S x) none e aq.2 fh
        rw [g1] at k0
        simp only [Option.some.injEq, Prod.mk.injEq, true_and] at k0
        obtain ⟨rfl, rfl⟩ := k0
        have aV := au.shared bu e c6 hh (fun b ab => b8 x (by simp [I.ad]) b (cb b ab)) dX
        rcases fB with ⟨l, r, _, aX, _⟩ | ⟨fJ, cur, ty, fr, l, r, aS, aX, aQ, ca, cR, _⟩
        ·simp at aX
        ·simp only [Option.some.injEq, Prod.mk.injEq] at aS
         obtain ⟨rfl, rfl⟩ := aS
         refine (aG.cJ rfl).2 ⟨rfl, ?_⟩
         rw [au]
         refine ⟨b, l.length, c6, rfl, b8 x (by simp [I.ad]) b (bU b aX), ?_, aV⟩
         intro j c b3
         simp only [World.cell?, aQ]
         have aw : cur[l.length + j]? = some c := by
          rw [← Array.getElem?_toList, cR, List.getElem?_append_right (by omega), List.getElem?_append_left (by
           have := (List.getElem?_eq_some_iff.1 b3).1; omega)]
          rw [← b3]; congr 1; omega
         simpa using aw
       ·cases he
      ·cases he
    | fn f cap =>
      simp only [view, Option.map_eq_some_iff] at he
      obtain ⟨ds, jz, rfl⟩ := he
      rw [aG] at aN
      obtain ⟨arr, rfl, aw⟩ := aN
      rw [aG]
      exact ⟨arr, rfl, ih.2 cap _ _ (by simp at b6; omega) (by simpa [I.ad] using b8) jz aw⟩
    | hole => simp [view] at he
    | ab y q => simp [view] at he
    | _ =>
      simp only [view, Option.some.injEq] at he; subst he
      have lF := (aG.cJ rfl).1 aN
      exact (aG.cJ rfl).2 ⟨lF.1, au.mono bu _ _ _ _ (fun _ h => h) lF.2⟩
   ·cases as with
    | nil =>
      simp only [views, Option.some.injEq] at he; subst he
      rw [ei] at aN ⊢; exact aN
    | cons a as =>
      simp only [views] at he
      split at he
      ·rename_i d ds ag ah
       simp only [Option.some.injEq] at he; subst he
       rw [ei] at aN ⊢
       obtain ⟨v, jG, rfl, g1, g2⟩ := aN
       simp at b6
       simp only [I.eE, List.mem_append] at b8
       exact ⟨v, jG, rfl, ih.1 a v d (by omega) (fun t bb => b8 t (.inl bb)) ag g1, ih.2 as jG ds (by omega) (fun t bb => b8 t (.inr bb)) ah g2⟩
      ·cases he
theorem bP.jr (h : bP w0 F0 X F S s aB w) {x : Nat} {q : List Nat} {d0 bz : I} {c6 : List Value} {a : Option (Nat × Nat)} {Sn : Nat → Prop}
  (ai : I.sub q (s x) = some d0) (br : dp w q (s x) (cr (aB x)) none = some (d0, c6, a)) (ah : ∀ vs, bz ≠ .tuple vs) (bb : q = [] → bz.tree = true ∧ eo bz (aB x))
  (aI : ∀ k p, q = k :: p → (s x).tree = true ∧ (∀ v, iO d0 v → iO bz v)) (hw : bz.wd = d0.wd)
  (aN : au w F bz c6 Sn) (fa : ∀ b, Sn b → b < w.heap.size) (bu : ∀ b, Sn b → ¬ F b) (b8 : ∀ u b, Sn b → ¬ S u b) (bc : ∀ b, Sn b → X b ∨ w0.heap.size ≤ b) :
  bP w0 F0 X F (gu S x (fun b => S x b ∨ Sn b)) (dw (lE x s) x (I.put q bz (s x))) aB w := by
 have eJ : dw aB x (aB x) = aB := by funext u; simp only [dw]; split <;> simp_all
 have main : (I.put q bz (s x)).tree = true ∧ eo (I.put q bz (s x)) (aB x) ∧ au w F (I.put q bz (s x)) (cr (aB x)) (fun b => S x b ∨ Sn b) := by
  cases q with
  | nil =>
    simp only [dp, Option.some.injEq, Prod.mk.injEq] at br
    obtain ⟨aS, aX, aQ⟩ := br
    obtain ⟨g1, g2⟩ := bb rfl
    simp only [I.put]
    refine ⟨g1, ?_, ?_⟩
    ·exact g2
    ·rw [aX]; exact au.mono (fun _ h => h) _ _ _ _ (fun b ab => .inr ab) aN
  | cons k p =>
    obtain ⟨g1, g2⟩ := aI k p rfl
    have aq := (aG.cJ g1).1 (h.dC x)
    obtain ⟨gd, a2, eR, hh, k0, bU, cb, e5, dX, fB⟩ := ctx (k :: p) (s x) (cr (aB x)) (S x) none d0 aq.2 ai
    rw [br] at k0
    simp only [Option.some.injEq, Prod.mk.injEq, true_and] at k0
    obtain ⟨rfl, rfl⟩ := k0
    refine ⟨?_, ?_, ?_⟩
    ·rcases rm k p bz (s x) with ⟨ax, gs, aS, e⟩ | ⟨ax, gs, aS, e⟩ | ⟨sz, xs, cn, aS, e⟩ | ⟨y, z, aS, e⟩ | e <;> rw [e] <;> first | rfl | exact g1
    ·refine CF aq.1 ai g2 (fun _ vs e => (ah vs e).elim) hw
    ·have mono : ∀ b, (eR b ∨ Sn b) → (S x b ∨ Sn b) := fun b ab => ab.imp (bU b) id
     rcases fB with ⟨l, r, aS, aX, aQ⟩ | ⟨b, cur, ty, fr, l, r, aS, aX, aQ, ca, cR, bZ⟩
     ·rw [aS]
      exact au.mono (fun _ h => h) _ _ _ _ mono (aQ w bz c6 Sn (fun _ _ => rfl) (fun _ _ => rfl) hw aN (fun b ab aw => b8 x b ab (bU b aw)))
     ·refine au.mono (fun _ h => h) _ _ _ _ mono (bZ w bz c6 Sn (fun _ _ => rfl) (fun _ _ _ => rfl) ?_ hw aN (fun b ab aw => b8 x b ab (bU b aw)))
      rw [aQ, ← cR]
 have := h.GS (t := x) main.1 main.2.1 main.2.2 (by rintro b (ab | ab); exact h.e4 x b ab; exact fa b ab) (by rintro b (ab | ab); exact h.gi x b ab; exact bu b ab)
  (by rintro u b dQ (ab | ab); exact fun hu => h.fK u x b dQ hu ab; exact b8 u b ab) (by rintro b (ab | ab); exact h.eh x b ab; exact bc b ab)
 rwa [eJ] at this
end
mutual
def I.c7 : I → Bool
 | .slice _ => false
 | .ref _ => false
 | .fn _ _ => false
 | .h _ _ => false
 | .ar _ _ => false
 | .ab _ _ => false
 | .aP _ xs => I.h5 xs
 | .a7 d => d.c7
 | .agg ax => I.h5 ax
 | .tuple ax => I.h5 ax
 | _ => true
def I.h5 : List I → Bool
 | [] => true
 | d :: ds => d.c7 && I.h5 ds
end
mutual
theorem au.c7 {w : World} {F bL : Nat → Prop} : ∀ (d : I) (cs : List Value) (S : Nat → Prop), d.c7 = true → au w F d cs S → au w bL d cs S
 | .hole, _, _, _, h => h
 | .bool _, _, _, _, h => h
 | .e_, _, _, _, h => h
 | .int _ _, _, _, _, h => h
 | .str _, _, _, _, h => h
 | .dv, _, _, _, h => h
 | .bp, _, _, _, h => h
 | .slice xs, cs, S, aY, h => by simp [I.c7] at aY
 | .ref d, cs, S, aY, h => by simp [I.c7] at aY
 | .aP sz xs, cs, S, aY, h => by
   rw [au] at h ⊢
   rcases h with h | ⟨b, cap, cur, e, fr, aT, ag, ah, aI, a_, bN, cQ, c5, fg, ie, h1, lk⟩
   ·exact .inl h
   ·exact .inr ⟨b, cap, cur, e, fr, aT, ag, ah, aI, a_, bN, cQ, c5, fg, a8.c7 xs _ _ aY ie, h1, lk⟩
 | .a7 d, cs, S, aY, h => by
   rw [au] at h ⊢
   obtain ⟨b, cur, e, fr, aT, ag, ah, aI, a_, bN, cQ, c5⟩ := h
   exact ⟨b, cur, e, fr, aT, ag, ah, aI, a_, au.c7 d _ _ aY bN, cQ, c5⟩
 | .agg ax, cs, S, aY, h => by rw [au] at h ⊢; exact a8.c7 ax _ _ aY h
 | .tuple ax, cs, S, aY, h => by rw [au] at h ⊢; exact a8.c7 ax _ _ aY h
 | .fn _ _, _, _, aY, h => by simp [I.c7] at aY
 | .h _ _, _, _, _, h => h
 | .ar _ _, _, _, _, h => h
 | .ab _ _, _, _, _, h => h
theorem a8.c7 {w : World} {F bL : Nat → Prop} : ∀ (ds : List I) (cs : List Value) (S : Nat → Prop), I.h5 ds = true → a8 w F ds cs S → a8 w bL ds cs S
 | [], _, _, _, h => h
 | d :: ds, cs, S, aY, h => by
   simp only [I.h5, Bool.and_eq_true] at aY
   rw [a8] at h ⊢
   obtain ⟨cy, cu, b5, dG, ag, ah, aI, a_, bN, cQ⟩ := h
   exact ⟨cy, cu, b5, dG, ag, au.c7 d _ _ aY.1 ah, a8.c7 ds _ _ aY.2 aI, a_, bN, cQ⟩
end
theorem H_ : ∀ (q : List Nat) (av d e : I), I.sub q av = some d → I.sub q (I.put q e av) = some e := by
 intro q
 induction q with
 | nil => intro av d e _; simp [I.put, I.sub]
 | cons k q ih =>
   intro av d e h
   cases av with
   | agg ax =>
     simp only [I.sub] at h
     split at h
     ·rename_i x aq
      have az : k < ax.length := (List.getElem?_eq_some_iff.1 aq).1
      simp only [I.put, aq, I.sub, List.getElem?_set_self az]
      exact ih _ _ _ h
     ·cases h
   | tuple ax =>
     simp only [I.sub] at h
     split at h
     ·rename_i x aq
      have az : k < ax.length := (List.getElem?_eq_some_iff.1 aq).1
      simp only [I.put, aq, I.sub, List.getElem?_set_self az]
      exact ih _ _ _ h
     ·cases h
   | aP sz ax =>
     simp only [I.sub] at h
     split at h
     ·rename_i x aq
      have az : k < ax.length := (List.getElem?_eq_some_iff.1 aq).1
      simp only [I.put, aq, I.sub, List.getElem?_set_self az]
      exact ih _ _ _ h
     ·cases h
   | a7 x =>
     cases k with
     | zero => simp only [I.sub] at h; simp only [I.put, I.sub]; exact ih _ _ _ h
     | succ k => simp [I.sub] at h
   | _ => simp [I.sub] at h
structure cV where
 a : I
 g : Bool
 d : I
 o : I
def I.own : I → Bool
 | .aP _ _ => true
 | .a7 _ => true
 | _ => false
def I.gz : I → Bool
 | .aP _ _ => true
 | .a7 _ => true
 | .agg ax => !I.gh ax
 | _ => false
def rK (d o : I) : Bool := match d, o with
 | .agg a, .agg b => I.ek a == I.ek b
 | .agg _, _ => false
 | _, .agg _ => false
 | _, _ => true
theorem qw {d : I} (h : d.gz = true) : d.plain = false ∧ d.tree = true ∧ ∀ vs, d ≠ .tuple vs := by
 cases d <;> simp [I.gz] at h <;> first | exact ⟨rfl, rfl, fun vs e => by cases e⟩ | exact ⟨by simp only [I.plain]; exact h, rfl, fun vs e => by cases e⟩
theorem Qx {d o : I} (h : d.gz = true) (cg : o.gz = true) (aR : rK d o = true) : o.wd = d.wd ∧ (∀ v, eo d v → eo o v) ∧ ∀ v, iO d.de v → iO o v := by
 cases d <;> simp [I.gz] at h <;> cases o <;> simp [I.gz] at cg <;> simp [rK] at aR <;> first
  | exact ⟨rfl, fun _ h => h, fun _ h => h⟩
  | exact ⟨by simp only [I.wd]; exact aR.symm, fun _ h => h, fun _ h => h⟩
def cV.ok (s : ao) (p : cV) : Prop :=
 if p.g then (match p.a with | .h x q => I.sub q (s x) = some p.d ∧ p.d.gz = true ∧ (p.o = .hole ∨ (p.o.gz = true ∧ rK p.d p.o = true)) | _ => False)
 else view s p.a = some p.d
def js : List cV → Bool
 | [] => true
 | p :: r => (r.all fun cC => !(p.g || cC.g) || (p.a.ad.all fun u => !cC.a.ad.contains u)) && js r
def cV.take (s : ao) (p : cV) : ao :=
 if p.g then (match p.a with | .h x q => dw (iZ x s) x (I.put q p.d.de (s x)) | _ => s) else s
def cV.jr (s : ao) (p : cV) : ao :=
 if p.g then (match p.a, p.o with | _, .hole => s | .h x q, o => dw (lE x s) x (I.put q o (s x)) | _, _ => s) else s
def fD (s : ao) (ps : List cV) : ao := ps.foldl cV.take s
def i7 (s : ao) (ps : List cV) : ao := ps.foldl cV.jr s
section
variable {w0 w aL : World} {F0 X F Fc : Nat → Prop} {S : Nat → Nat → Prop} {s aA : ao} {aB j_ : Nat → Value}
def Qy (w : World) (F : Nat → Prop) (s1 : ao) (aB : Nat → Value) (p : cV) (v : Value) (Sn : Nat → Prop) : Prop :=
 ∃ x q a0, p.a = .h x q ∧ I.sub q (s1 x) = some p.d.de ∧ dp w q (s1 x) (cr (aB x)) none = some (p.d.de, cr v, a0) ∧ (s1 x).ad = [] ∧ (q = [] → eo p.d (aB x)) ∧ (q ≠ [] → (s1 x).tree = true) ∧
   eo p.d v ∧ au w F p.d (cr v) Sn
theorem Qz {p : cV} {x : Nat} (h : (s x).ad = []) (ar : p.g = true → x ∉ p.a.ad) : cV.take s p x = s x := by
 unfold cV.take
 split
 ·rename_i bT
  cases b_ : p.a with
  | h y q =>
    have : x ≠ y := by
     have := ar bT
     rw [b_] at this
     simpa [I.ad] using this
    simp only
    rw [jH _ _ this]
    exact vU _ (by rw [h]; simp)
  | _ => rfl
 ·rfl
theorem Dv : ∀ {ps : List cV} {s : ao} {x : Nat}, (s x).ad = [] → (∀ p ∈ ps, p.g = true → x ∉ p.a.ad) → fD s ps x = s x := by
 intro ps
 induction ps with
 | nil => intros; rfl
 | cons p ps ih =>
   intro s x h ar
   have e := Qz (s := s) (p := p) h (ar p (by simp))
   show fD (cV.take s p) ps x = s x
   rw [ih (by rw [e]; exact h) (fun cC eM => ar cC (by simp [eM])), e]
theorem pJ {d : I} (h : d.own = true) : d.plain = false ∧ d.tree = true ∧ d.de = .hole ∧ d.one = true ∧ d.wd = 1 ∧ (∀ v, eo d v ↔ Value.gH v = true) := by
 cases d <;> simp [I.own] at h <;> exact ⟨rfl, rfl, rfl, rfl, rfl, fun v => Iff.rfl⟩
theorem QA : ∀ (ps : List cV) (vs : List Value) (s : ao) (S : Nat → Nat → Prop), bP w0 F0 X F S s aB w → ps.length = vs.length →
  (∀ (i : Nat) (p : cV) (v : Value), ps[i]? = some p → vs[i]? = some v → p.a.plain = true ∧ aG w F s aB p.a v (fun _ => False) ∧ (p.g = true → p.ok s)) → js ps = true →
  ∃ (Sn b5 : Nat → Nat → Prop), bP w0 F0 X F b5 (fD s ps) aB w ∧ (∀ u b, b5 u b → S u b) ∧
    (∀ (i : Nat) (p : cV) (v : Value), ps[i]? = some p → vs[i]? = some v → p.g = true → Qy w F (fD s ps) aB p v (Sn i)) ∧
    (∀ i b, Sn i b → ∃ p, ps[i]? = some p ∧ p.g = true) ∧
    (∀ i b, Sn i b → ∃ u, S u b) ∧ (∀ i u b, Sn i b → ¬ b5 u b) ∧ (∀ i j b, i ≠ j → Sn i b → ¬ Sn j b) ∧
    (∀ (bz : I) (gj : Value) (aT : Nat → Prop), (∀ p ∈ ps, p.g = true → ∀ u ∈ p.a.ad, u ∉ bz.ad) → aG w F s aB bz gj aT → aG w F (fD s ps) aB bz gj aT) := by
 intro ps
 induction ps with
 | nil =>
   intro vs s S h aR _ _
   exact ⟨fun _ _ => False, S, h, fun _ _ h => h, fun i p v ar => by simp at ar, fun _ _ h => h.elim, fun _ _ h => h.elim, fun _ _ _ h => h.elim, fun _ _ _ _ h => h.elim, fun _ _ _ _ h => h⟩
 | cons p ps ih =>
   intro vs s S h aR vO kJ
   cases vs with
   | nil => simp at aR
   | cons v vs =>
     simp only [List.length_cons, Nat.add_right_cancel_iff] at aR
     simp only [js, Bool.and_eq_true, List.all_eq_true, Bool.or_eq_true, Bool.not_eq_true'] at kJ
     obtain ⟨n6, np⟩ := kJ
     have tv : ∀ cC ∈ ps, (p.g = true ∨ cC.g = true) → ∀ u ∈ p.a.ad, u ∉ cC.a.ad := by
      intro cC eM bT u hu
      rcases n6 cC eM with e | e
      ·rcases bT with bT | bT <;> simp [bT] at e
      ·simpa using e u hu
     obtain ⟨f1, f2, f3⟩ := vO 0 p v rfl rfl
     cases bT : p.g with
     | false =>
       have gv : cV.take s p = s := by simp [cV.take, bT]
       obtain ⟨Sn, b5, g1, g2, g3, g4, g5, g6, g7, g8⟩ := ih vs s S h aR (fun i cC gj ar aN => vO (i + 1) cC gj (by simpa using ar) (by simpa using aN)) np
       have aS : fD s (p :: ps) = fD s ps := by show fD (cV.take s p) ps = _; rw [gv]
       rw [aS]
       refine ⟨fun i => match i with | 0 => fun _ => False | i + 1 => Sn i, b5, g1, g2, ?_, ?_, ?_, ?_, ?_, fun bz gj aT ai => g8 bz gj aT fun cC eM => ai cC (by simp [eM])⟩
       ·intro i cC gj ar aN hO
        cases i with
        | zero => simp at ar; subst ar; rw [bT] at hO; cases hO
        | succ i => exact g3 i cC gj (by simpa using ar) (by simpa using aN) hO
       ·intro i b ab
        cases i with
        | zero => exact ab.elim
        | succ i => simpa using g4 i b ab
       ·intro i b ab
        cases i with
        | zero => exact ab.elim
        | succ i => exact g5 i b ab
       ·intro i u b ab
        cases i with
        | zero => exact ab.elim
        | succ i => exact g6 i u b ab
       ·intro i j b dQ al b3
        cases i with
        | zero => exact al.elim
        | succ i =>
          cases j with
          | zero => exact b3.elim
          | succ j => exact g7 i j b (by omega) al b3
     | true =>
       have gA := f3 bT
       simp only [cV.ok, bT, if_true] at gA
       split at gA
       ·rename_i x q b_
        obtain ⟨fh, Dw, vn⟩ := gA
        obtain ⟨mF, kL, n7⟩ := qw Dw
        have QB : cT s p.a = some (p.d, dw (iZ x s) x (I.put q p.d.de (s x))) := by
         rw [b_]; simp only [cT, fh, mF]; rfl
        obtain ⟨b5, t1, t2, t3, QC, t4, t5, t6, t7, t8, t9, t10, t11⟩ := oO h f1 f2 QB
        have gv : cV.take s p = dw (iZ x s) x (I.put q p.d.de (s x)) := by simp [cV.take, bT, b_]
        have o3 : ∀ cC ∈ ps, x ∉ cC.a.ad := fun cC eM => tv cC eM (.inl bT) x (by rw [b_]; simp [I.ad])
        have Dx : cV.take s p x = I.put q p.d.de (s x) := by rw [gv, l7]
        have Ia : (cV.take s p x).ad = [] := by
         rw [Dx]; exact vW q _ _ _ fh (.inl mF) (fun _ => by cases ai : p.d <;> first | rfl | (rw [ai] at Dw; simp [I.gz] at Dw))
        obtain ⟨Sn, dG, g1, g2, g3, g4, g5, g6, g7, g8⟩ := ih vs (cV.take s p) b5 (by rw [gv]; exact t1) aR (by
         intro i cC gj ar aN
         obtain ⟨bU, cb, e5⟩ := vO (i + 1) cC gj (by simpa using ar) (by simpa using aN)
         have hm : cC ∈ ps := List.mem_of_getElem? ar
         refine ⟨bU, ?_, ?_⟩
         ·have := t11 _ _ _ cb
          rw [b_] at this
          rw [gv]
          simp only [I.owner, kG] at this
          rwa [vU _ (o3 cC hm)] at this
         ·intro hO
          have := e5 hO
          simp only [cV.ok, hO, if_true] at this ⊢
          split at this
          ·rename_i y jx rL
           have dQ : y ≠ x := fun e => o3 cC hm (by rw [rL, e]; simp [I.ad])
           rw [gv, jH _ _ dQ]
           have bb := iI this.1 (.inl (qw this.2.1).1)
           simp only [iZ, CD bb]
           exact this
          ·exact this.elim) np
        have aS : fD s (p :: ps) = fD (cV.take s p) ps := rfl
        have qx : fD (cV.take s p) ps x = I.put q p.d.de (s x) := by
         rw [Dv Ia (fun cC eM _ => o3 cC eM), Dx]
        rw [aS]
        refine ⟨fun i => match i with | 0 => QC | i + 1 => Sn i, dG, g1, fun u b ab => t9 u b (g2 u b ab), ?_, ?_, ?_, ?_, ?_, ?_⟩
        rotate_left 5
        ·intro bz gj aT ai jt
         refine g8 bz gj aT (fun cC eM => ai cC (by simp [eM])) ?_
         have := t11 _ _ _ jt
         rw [b_] at this
         rw [gv]
         simp only [I.owner, kG] at this
         rwa [vU _ (ai p (by simp) bT x (by rw [b_]; simp [I.ad]))] at this
        ·intro i cC gj ar aN hO
         cases i with
         | zero =>
           simp at ar aN; subst ar aN
           have yV := f2
           rw [b_, aG] at yV
           obtain ⟨c6, a0, cy, cu, yW⟩ := yV _ fh mF
           refine ⟨x, q, a0, b_, ?_, ?_, ?_, ?_, ?_, t3, t4⟩
           ·rw [qx]; exact H_ q _ _ _ fh
           ·rw [qx, cu]; exact Qv w q _ _ _ _ _ _ _ fh (I.ql _) cy
           ·rw [qx, ← Dx]; exact Ia
           ·intro cv; subst cv
            simp only [I.sub, Option.some.injEq] at fh
            have := (aG.cJ (by rw [fh]; exact kL)).1 (h.dC x)
            rw [fh] at this
            exact this.1
           ·intro cv
            have bb := iI fh (.inl mF)
            rw [qx]
            cases q with
            | nil => exact (cv rfl).elim
            | cons k q => rcases rm k q p.d.de (s x) with ⟨ax, gs, aS, e⟩ | ⟨ax, gs, aS, e⟩ | ⟨sz, xs, cn, aS, e⟩ | ⟨y, z, aS, e⟩ | e <;> rw [e] <;> first | rfl | exact bb
         | succ i => exact g3 i cC gj (by simpa using ar) (by simpa using aN) hO
        ·intro i b ab
         cases i with
         | zero => exact ⟨p, rfl, bT⟩
         | succ i => simpa using g4 i b ab
        ·intro i b ab
         cases i with
         | zero => exact t10 b ab
         | succ i => obtain ⟨u, hu⟩ := g5 i b ab; exact ⟨u, t9 u b hu⟩
        ·intro i u b ab
         cases i with
         | zero => exact fun hu => t7 u b ab (g2 u b hu)
         | succ i => exact g6 i u b ab
        ·intro i j b dQ al b3
         cases i with
         | zero =>
           cases j with
           | zero => exact dQ rfl
           | succ j => obtain ⟨u, hu⟩ := g5 j b b3; exact t7 u b al hu
         | succ i =>
           cases j with
           | zero => obtain ⟨u, hu⟩ := g5 i b al; exact t7 u b b3 hu
           | succ j => exact g7 i j b (by omega) al b3
       ·exact gA.elim
end
def gm (l : List I) : ao := fun i => l.getD i .hole
def hE (l : List Value) : Nat → Value := fun i => l.getD i undef
def n8 (P : Program) (f : FuncId) (args : Array Value) (w : World) (me : Value → World → Prop) : Prop :=
 ((callFunc f args).run P w = .ok (.enter f args) w ∧ Calls P f args w (fun e aL => ∃ v, e = .returned v ∧ me v aL)) ∨
 ∃ v aL, (callFunc f args).run P w = .ok (.value v) aL ∧ me v aL
theorem n8.mono {P : Program} {f : FuncId} {args : Array Value} {w : World} {me Ib : Value → World → Prop} (h : n8 P f args w me) (aV : ∀ v aL, me v aL → Ib v aL) : n8 P f args w Ib := by
 rcases h with ⟨ag, ah⟩ | ⟨v, aL, ag, ah⟩
 ·exact .inl ⟨ag, Calls.mono ah fun e aL ⟨v, e, h⟩ => ⟨v, e, aV v aL h⟩⟩
 ·exact .inr ⟨v, aL, ag, aV v aL ah⟩
def bh (C : ck) (f : FuncId) (as : List I) (r : I) (outs : List I) : Prop :=
 ∀ (w : World) (F X : Nat → Prop) (S : Nat → Nat → Prop) (vs : List Value), vs.length = as.length → bP w F X F S (gm as) (hE vs) w →
   n8 C.P f vs.toArray w fun v aL => ∃ bL aT, bP w F X bL aT (gm (r :: outs)) (hE (v :: vs)) aL
def I.res : I → Bool
 | .h _ _ => false
 | .ar _ _ => false
 | .ab _ _ => false
 | .fn _ _ => false
 | _ => true
theorem Ic {d : I} (h : d.tree = true) : d.ad = [] := by cases d <;> first | rfl | (simp [I.tree] at h)
mutual
theorem Dy {s aA : ao} : ∀ (a : I) (d : I), (∀ u ∈ a.ad, (s u).tree = true → aA u = s u) → view s a = some d → view aA a = some d
 | .h x q, d, hu, h => by
   have bb : (s x).tree = true := by
    simp only [view] at h
    split at h
    ·rename_i e fh
     cases e <;> simp only at h <;> first
      | (cases h; done)
      | (split at h
         ·cases h
         ·rename_i ar
          exact iI fh (.inl (by simpa using ar)))
    ·cases h
   simp only [view] at h ⊢
   rw [hu x (by simp [I.ad]) bb]; exact h
 | .ar x q, d, hu, h => by
   have bb : (s x).tree = true := by
    simp only [view] at h
    split at h
    ·rename_i aw
     split at h
     ·rename_i e fh; exact iI fh (.inr aw)
     ·cases h
    ·cases h
   simp only [view] at h ⊢
   rw [hu x (by simp [I.ad]) bb]; exact h
 | .ab x q, d, hu, h => by simp [view] at h
 | .fn f cap, d, hu, h => by
   simp only [view, Option.map_eq_some_iff] at h ⊢
   obtain ⟨ds, ag, ah⟩ := h
   exact ⟨ds, Ie cap ds (by simpa [I.ad] using hu) ag, ah⟩
 | .hole, d, hu, h => h
 | .bool _, d, hu, h => h
 | .e_, d, hu, h => h
 | .int _ _, d, hu, h => h
 | .str _, d, hu, h => h
 | .dv, d, hu, h => h
 | .bp, d, hu, h => h
 | .slice _, d, hu, h => h
 | .aP _ _, d, hu, h => h
 | .ref _, d, hu, h => h
 | .a7 _, d, hu, h => h
 | .agg _, d, hu, h => h
 | .tuple _, d, hu, h => h
theorem Ie {s aA : ao} : ∀ (as : List I) (ds : List I), (∀ u ∈ I.eE as, (s u).tree = true → aA u = s u) → views s as = some ds → views aA as = some ds
 | [], ds, hu, h => h
 | a :: as, ds, hu, h => by
   simp only [I.eE, List.mem_append] at hu
   simp only [views] at h ⊢
   split at h
   ·rename_i x y ag ah
    rw [Dy a x (fun u hm => hu u (.inl hm)) ag, Ie as y (fun u hm => hu u (.inr hm)) ah]; exact h
   ·cases h
end
section
variable {C : ck} {w0 w aL : World} {F0 X F Fc : Nat → Prop} {S : Nat → Nat → Prop} {s aA : ao} {aB j_ : Nat → Value}
def QD (w : World) (F : Nat → Prop) (s : ao) (aB : Nat → Value) (p : cV) (v : Value) (nq : Nat → Prop) : Prop :=
 p.g = true → p.o = .hole ∨ ∃ x q a0 d0, p.a = .h x q ∧ I.sub q (s x) = some d0 ∧ dp w q (s x) (cr (aB x)) none = some (d0, cr v, a0) ∧ (s x).ad = [] ∧
  (q = [] → eo p.o (aB x)) ∧ (q ≠ [] → (s x).tree = true) ∧ p.o.gz = true ∧ au w F p.o (cr v) nq ∧ p.o.wd = d0.wd ∧ ∀ v, iO d0 v → iO p.o v
theorem QE : ∀ (ps : List cV) (vs : List Value) (s : ao) (S nq : Nat → Nat → Prop), bP w0 F0 X F S s aB w → ps.length = vs.length →
  (∀ (i : Nat) (p : cV) (v : Value), ps[i]? = some p → vs[i]? = some v → QD w F s aB p v (nq i)) →
  (∀ i b, nq i b → b < w.heap.size ∧ ¬ F b ∧ (X b ∨ w0.heap.size ≤ b) ∧ ∀ u, ¬ S u b) → (∀ i j b, i ≠ j → nq i b → ¬ nq j b) → js ps = true →
  ∃ dG, bP w0 F0 X F dG (i7 s ps) aB w ∧ ∀ u b, dG u b → S u b ∨ ∃ i, nq i b := by
 intro ps
 induction ps with
 | nil => intro vs s S nq h _ _ _ _ _; exact ⟨S, h, fun u b ab => .inl ab⟩
 | cons p ps ih =>
   intro vs s S nq h aR Dz ab ai kJ
   cases vs with
   | nil => simp at aR
   | cons v vs =>
     simp only [List.length_cons, Nat.add_right_cancel_iff] at aR
     simp only [js, Bool.and_eq_true, List.all_eq_true, Bool.or_eq_true, Bool.not_eq_true'] at kJ
     obtain ⟨n6, np⟩ := kJ
     have tv : ∀ cC ∈ ps, (p.g = true ∨ cC.g = true) → ∀ u ∈ p.a.ad, u ∉ cC.a.ad := by
      intro cC eM bT u hu
      rcases n6 cC eM with e | e
      ·rcases bT with bT | bT <;> simp [bT] at e
      ·simpa using e u hu
     have skip : cV.jr s p = s → ∃ dG, bP w0 F0 X F dG (i7 s (p :: ps)) aB w ∧ ∀ u b, dG u b → S u b ∨ ∃ i, nq i b := by
      intro gv
      obtain ⟨dG, g1, g2⟩ := ih vs s S (fun i => nq (i + 1)) h aR (fun i cC gj ar aN => Dz (i + 1) cC gj (by simpa using ar) (by simpa using aN)) (fun i b h => ab (i + 1) b h)
       (fun i j b dQ => ai (i + 1) (j + 1) b (by omega)) np
      refine ⟨dG, ?_, fun u b hu => (g2 u b hu).imp id fun ⟨i, al⟩ => ⟨i + 1, al⟩⟩
      show bP _ _ _ _ _ (i7 (cV.jr s p) ps) _ _
      rw [gv]; exact g1
     cases bT : p.g with
     | false => exact skip (by simp [cV.jr, bT])
     | true =>
       rcases Dz 0 p v rfl rfl bT with cg | ⟨x, q, a0, d0, b_, cy, cu, yW, vw, DA, DB, QF, QG, QH⟩
       ·exact skip (by simp only [cV.jr, bT, cg, if_true])
       ·obtain ⟨mF, kL, qy⟩ := qw DB
        have gv : cV.jr s p = dw (lE x s) x (I.put q p.o (s x)) := by
         simp only [cV.jr, bT, if_true, b_]
         cases QI : p.o <;> first | rfl | (rw [QI] at DB; simp [I.gz] at DB)
        have step := h.jr (x := x) (q := q) (bz := p.o) cy cu qy (fun cv => ⟨kL, vw cv⟩) (fun k r cv => ⟨DA (by rw [cv]; simp), QH⟩) QG QF
         (fun b h => (ab 0 b h).1) (fun b h => (ab 0 b h).2.1) (fun u b h => (ab 0 b h).2.2.2 u) (fun b h => (ab 0 b h).2.2.1)
        rw [← gv] at step
        obtain ⟨dG, g1, g2⟩ := ih vs (cV.jr s p) _ (fun i => nq (i + 1)) step aR (by
         intro i cC gj ar aN hO
         have hm : cC ∈ ps := List.mem_of_getElem? ar
         rcases Dz (i + 1) cC gj (by simpa using ar) (by simpa using aN) hO with cg | ⟨y, jx, U, d1, bU, cb, e5, dX, fB, eC, jq, fi, lK⟩
         ·exact .inl cg
         ·have dQ : y ≠ x := fun e => tv cC hm (.inl bT) x (by rw [b_]; simp [I.ad]) (by rw [bU, e]; simp [I.ad])
          have mA : cV.jr s p y = s y := by
           rw [gv, jH _ _ dQ]
           exact Di _ (by rw [dX]; simp)
          exact .inr ⟨y, jx, U, d1, bU, by rw [mA]; exact cb, by rw [mA]; exact e5, by rw [mA]; exact dX, fB, by rw [mA]; exact eC, jq, fi, lK⟩)
         (by
          intro i b al
          obtain ⟨k3, iS, kr, bA⟩ := ab (i + 1) b al
          refine ⟨k3, iS, kr, fun u hu => ?_⟩
          simp only [gu] at hu
          split at hu
          ·rcases hu with hu | hu
           ·exact bA _ hu
           ·exact ai 0 (i + 1) b (by omega) hu al
          ·exact bA _ hu)
         (fun i j b dQ => ai (i + 1) (j + 1) b (by omega)) np
        refine ⟨dG, g1, fun u b hu => ?_⟩
        rcases g2 u b hu with hu | ⟨i, al⟩
        ·simp only [gu] at hu
         split at hu
         ·rename_i e; subst e
          exact hu.imp id fun h => ⟨0, h⟩
         ·exact .inl hu
        ·exact .inr ⟨i + 1, al⟩
def k7 (ps : List cV) : Bool := ps.any fun p => !p.g && !p.a.ad.isEmpty
theorem Ig (h : bP w0 F0 X F S s aB w) {ps : List cV} {vs : List Value} {f : FuncId} {r : I} (aR : ps.length = vs.length)
  (jt : ∀ (i : Nat) (p : cV) (v : Value), ps[i]? = some p → vs[i]? = some v → p.a.plain = true ∧ aG w F s aB p.a v (fun _ => False))
  (gA : ∀ p ∈ ps, p.ok s) (kJ : js ps = true) (br : ∀ (Fc lN : Nat → Prop) (eR : Nat → Nat → Prop), (∀ b, F b → Fc b) → (∀ b, lN b → ∃ u, S u b) → bP w Fc lN Fc eR (gm (ps.map (·.d))) (hE vs) w →
   n8 C.P f vs.toArray w fun v aL => ∃ bL aT, bP w Fc lN bL aT (gm (r :: ps.map (·.o))) (hE (v :: vs)) aL) (aV : r.res = true)
  (aY : k7 ps = true → r.c7 = true ∧ ∀ p ∈ ps, p.o.c7 = true) :
  n8 C.P f vs.toArray w fun v aL => ∃ bL aT, bP w0 F0 X bL aT (i7 (fD s ps) ps) aB aL ∧ kX w0 X bL aT (i7 (fD s ps) ps) aB aL r v ∧ ∀ b, F b → bL b ∧ aL.heap[b]? = w.heap[b]? := by
 obtain ⟨Sn, b5, g1, g2, g3, g4, g5, g6, g7, g8⟩ := QA ps vs s S h aR (fun i p v ar aN => ⟨(jt i p v ar aN).1, (jt i p v ar aN).2, fun _ => gA p (List.mem_of_getElem? ar)⟩) kJ
 have apart : ∀ (i j : Nat) (p cC : cV), ps[i]? = some p → ps[j]? = some cC → i ≠ j → (p.g = true ∨ cC.g = true) → ∀ u ∈ p.a.ad, u ∉ cC.a.ad := by
  clear jt gA br aY g1 g3 g4 g8 aR
  induction ps with
  | nil => intro i j p cC ar; simp at ar
  | cons hL ps ih =>
    simp only [js, Bool.and_eq_true, List.all_eq_true, Bool.or_eq_true, Bool.not_eq_true'] at kJ
    obtain ⟨n6, np⟩ := kJ
    have tv : ∀ cC ∈ ps, (hL.g = true ∨ cC.g = true) → ∀ u ∈ hL.a.ad, u ∉ cC.a.ad := by
     intro cC eM bT u hu
     rcases n6 cC eM with e | e
     ·rcases bT with bT | bT <;> simp [bT] at e
     ·simpa using e u hu
    intro i j p cC ar eM dQ bT u hu
    cases i with
    | zero =>
      simp at ar; subst ar
      cases j with
      | zero => exact (dQ rfl).elim
      | succ j => exact tv cC (List.mem_of_getElem? (by simpa using eM)) bT u hu
    | succ i =>
      cases j with
      | zero =>
        simp at eM; subst eM
        exact fun vX => tv p (List.mem_of_getElem? (by simpa using ar)) bT.symm u vX hu
      | succ j => exact ih np i j p cC (by simpa using ar) (by simpa using eM) (by omega) bT u hu
 let Fc : Nat → Prop := fun b => F b ∨ (k7 ps = true ∧ ∃ u, b5 u b)
 let lN : Nat → Prop := fun b => ∃ i, Sn i b
 have DC : ∀ b, F b → ¬ lN b := fun b bu ⟨i, al⟩ => by obtain ⟨u, hu⟩ := g5 i b al; exact h.gi u b hu bu
 have vY : ∀ u b, b5 u b → ¬ lN b := fun u b hu ⟨i, al⟩ => g6 i u b al hu
 have yX : ∀ b, lN b → (X b ∨ w0.heap.size ≤ b) ∧ b < w.heap.size := fun b ⟨i, al⟩ => by obtain ⟨u, hu⟩ := g5 i b al; exact ⟨h.eh u b hu, h.e4 u b hu⟩
 have pre : bP w Fc lN Fc Sn (gm (ps.map (·.d))) (hE vs) w := by
  refine ⟨fun _ h => h, fun _ h => .inl h, ?_, fun i b al => (yX b ⟨i, al⟩).2, ?_, fun i j b dQ => g7 i j b dQ, fun i b al => .inl ⟨i, al⟩, ?_, fun _ _ _ => rfl, Nat.le_refl _, rfl, rfl, rfl⟩
  ·rintro b (ab | ⟨_, u, hu⟩)
   ·exact h.fA b ab
   ·exact g1.e4 u b hu
  ·rintro i b al (ab | ⟨_, u, hu⟩)
   ·exact DC b ab ⟨i, al⟩
   ·exact g6 i u b al hu
  ·intro t
   cases ar : ps[t]? with
   | none =>
     have : gm (ps.map (·.d)) t = .hole := by simp [gm, List.getD, ar]
     rw [this, aG]; trivial
   | some p =>
     have fa : t < vs.length := by rw [← aR]; exact (List.getElem?_eq_some_iff.1 ar).1
     have aN : vs[t]? = some vs[t] := List.getElem?_eq_getElem fa
     have aS : gm (ps.map (·.d)) t = p.d := by simp [gm, List.getD, ar]
     have aX : hE vs t = vs[t] := by simp [hE, List.getD, aN]
     rw [aS, aX]
     have hm : p ∈ ps := List.mem_of_getElem? ar
     have az := gA p hm
     cases bT : p.g with
     | true =>
       obtain ⟨x, q, a0, bU, cb, e5, dX, fB, eC, jq, fi⟩ := g3 t p _ ar aN bT
       simp only [cV.ok, bT, if_true, bU] at az
       exact (aG.cJ (qw az.2.1).2.1).2 ⟨jq, au.mono (fun b ab => .inl ab) _ _ _ _ (fun _ h => h) fi⟩
     | false =>
       simp only [cV.ok, bT] at az
       obtain ⟨f1, f2⟩ := jt t p _ ar aN
       have Ih : ∀ cC ∈ ps, cC.g = true → ∀ u ∈ cC.a.ad, u ∉ p.a.ad := by
        intro cC eM hO u hu
        obtain ⟨j, b3⟩ := List.getElem?_of_mem eM
        refine apart j t cC p b3 ar (fun e => ?_) (.inl hO) u hu
        subst e; rw [ar] at b3; simp only [Option.some.injEq] at b3; rw [b3, hO] at bT; cases bT
       have yV := g8 _ _ _ Ih f2
       have kI : view (fD s ps) p.a = some p.d := Dy _ _ (fun u hu bb => Dv (Ic bb) (fun cC eM hO vX => Ih cC eM hO u vX hu)) (by simpa using az)
       refine aG.nothing (Qu f1 kI) ((Qw g1 (Fc := Fc) (fun b ab => .inl ab) (SizeOf.sizeOf p.a)).1 p.a _ p.d (Nat.le_refl _) ?_ kI yV)
       intro u hu b ab
       refine .inr ⟨?_, u, ab⟩
       simp only [k7, List.any_eq_true]
       refine ⟨p, hm, ?_⟩
       cases jW : p.a.ad with
       | nil => rw [jW] at hu; cases hu
       | cons _ _ => simp [bT]
 refine n8.mono (br Fc lN Sn (fun b ab => .inl ab) (fun b ⟨i, al⟩ => g5 i b al) pre) ?_
 rintro v aL ⟨bL, aT, aw⟩
 have keep : ∀ b, b < w.heap.size → ¬ lN b → aL.heap[b]? = w.heap[b]? := aw.old
 let n9 : Nat → Prop := fun b => if k7 ps = true then F b else bL b
 have Ii : ∀ b, F b → bL b := fun b ab => aw.hq b (.inl ab)
 have tw : ∀ b, F b → n9 b := fun b ab => by
  simp only [n9]; split
  ·exact ab
  ·exact Ii b ab
 have vZ : ∀ b, n9 b → bL b := fun b ab => by
  simp only [n9] at ab; split at ab
  ·exact Ii b ab
  ·exact ab
 have Ij : ∀ b, n9 b → F b ∨ lN b ∨ w.heap.size ≤ b := fun b ab => by
  simp only [n9] at ab; split at ab
  ·exact .inl ab
  ·rename_i qt
   rcases aw.hM b ab with (ab | ⟨ag, _⟩) | ab | ab
   ·exact .inl ab
   ·exact (qt ag).elim
   ·exact .inr (.inl ab)
   ·exact .inr (.inr ab)
 have mid : bP w0 F0 X n9 b5 (fD s ps) aB aL := by
  refine ⟨fun b ab => tw b (g1.hq b ab), ?_, fun b ab => aw.fA b (vZ b ab), fun t b ab => Nat.lt_of_lt_of_le (g1.e4 t b ab) aw.size, ?_, g1.fK, g1.eh, ?_, ?_, Nat.le_trans g1.size aw.size, aw.os.trans g1.os, aw.tape.trans g1.tape, aw.output.trans g1.output⟩
  ·intro b ab
   rcases Ij b ab with ab | ab | ab
   ·exact g1.hM b ab
   ·rcases (yX b ab).1 with h | h
    ·exact .inr (.inl h)
    ·exact .inr (.inr h)
   ·exact .inr (.inr (Nat.le_trans g1.size ab))
  ·intro t b bb ab
   rcases Ij b ab with ab | ab | ab
   ·exact g1.gi t b bb ab
   ·exact vY t b bb ab
   ·exact absurd (g1.e4 t b bb) (by omega)
  ·intro t
   exact aG.frame (Sx := b5) (fun b ab => keep b (h.fA b ab) (DC b ab)) tw (fun x b ab => keep b (g1.e4 x b ab) (vY x b ab)) g1.dC _ _ _ (fun b ab => keep b (g1.e4 t b ab) (vY t b ab)) (g1.dC t)
  ·intro b ab kW
   refine (keep b (Nat.lt_of_lt_of_le ab g1.size) fun aq => ?_).trans (g1.old b ab kW)
   rcases (yX b aq).1 with h | h
   ·exact kW h
   ·omega
 have Ik : ∀ (d : I) (cs : List Value) (eh : Nat → Prop), (k7 ps = true → d.c7 = true) → au aL bL d cs eh → au aL n9 d cs eh := by
  intro d cs eh C_ hk
  by_cases hle : k7 ps = true
  ·exact au.c7 d cs eh (C_ hle) hk
  ·exact au.mono (fun b ab => by simp only [n9]; rw [if_neg hle]; exact ab) _ _ _ _ (fun _ h => h) hk
 have bound : ∀ i b, aT i b → b < aL.heap.size ∧ ¬ n9 b ∧ (X b ∨ w0.heap.size ≤ b) ∧ ∀ u, ¬ b5 u b := by
  intro i b ab
  refine ⟨aw.e4 i b ab, fun bu => aw.gi i b ab (vZ b bu), ?_, fun u hu => ?_⟩
  ·rcases aw.eh i b ab with aq | aq
   ·exact (yX b aq).1
   ·exact .inr (Nat.le_trans g1.size aq)
  ·rcases aw.eh i b ab with aq | aq
   ·exact vY u b hu aq
   ·exact absurd (g1.e4 u b hu) (by omega)
 obtain ⟨dG, bU, cb⟩ := QE ps vs (fD s ps) b5 (fun i => aT (i + 1)) mid aR (by
  intro i p gj ar aN bT
  have hm : p ∈ ps := List.mem_of_getElem? ar
  have az := gA p hm
  obtain ⟨x, q, a0, aS, aX, aQ, ca, cR, bZ, bS, hi⟩ := g3 i p gj ar aN bT
  simp only [cV.ok, bT, if_true, aS] at az
  rcases az.2.2 with cg | cg
  ·exact .inl cg
  ·obtain ⟨gQ, l2, v7⟩ := Qx az.2.1 cg.1 cg.2
   refine .inr ⟨x, q, a0, p.d.de, aS, aX, ?_, ca, fun cv => l2 _ (cR cv), bZ, cg.1, ?_, gQ.trans (I.ql _).symm, v7⟩
   ·cases q with
    | nil => simpa only [dp] using aQ
    | cons k q =>
      have bb := bZ (by simp)
      rw [CA (k :: q) _ _ (b5 x) none _ ((aG.cJ bb).1 (g1.dC x)).2 aX (fun b ab => keep b (g1.e4 x b ab) (vY x b ab))]
      exact aQ
   ·have := aw.dC (i + 1)
    have ln : gm (r :: ps.map (·.o)) (i + 1) = p.o := by simp [gm, List.getD, ar]
    have n0 : hE (v :: vs) (i + 1) = gj := by simp [hE, List.getD, aN]
    rw [ln, n0] at this
    exact Ik _ _ _ (fun hle => (aY hle).2 p hm) ((aG.cJ (qw cg.1).2.1).1 this).2)
  (fun i b ab => bound (i + 1) b ab) (fun i j b dQ => aw.fK (i + 1) (j + 1) b (by omega)) kJ
 refine ⟨n9, dG, bU, ?_, fun b ab => ⟨tw b ab, keep b (h.fA b ab) (DC b ab)⟩⟩
 have bc := aw.dC 0
 have ln : gm (r :: ps.map (·.o)) 0 = r := rfl
 have n0 : hE (v :: vs) 0 = v := rfl
 rw [ln, n0] at bc
 cases bb : r.tree with
 | false =>
   cases r <;> first
    | (simp [I.tree] at bb; done)
    | (simp [I.res] at aV; done)
    | exact .inl ⟨rfl, by rw [aG]; trivial⟩
 | true =>
   obtain ⟨s1, s2⟩ := (aG.cJ bb).1 bc
   have fb := Ik _ _ _ (fun hle => (aY hle).1) s2
   refine .inr ⟨bb, s1, aT 0, fb, fun b ab => (bound 0 b ab).1, fun b ab => (bound 0 b ab).2.1, fun u b ab hu => ?_, fun b ab => (bound 0 b ab).2.2.1⟩
   rcases cb u b hu with hu | ⟨i, al⟩
   ·exact (bound 0 b ab).2.2.2 u hu
   ·exact aw.fK 0 (i + 1) b (by omega) ab al
theorem QJ (h : bP w0 F0 X F S s aB w) {ps : List cV} {vs : List Value} {f : FuncId} {r : I} (aR : ps.length = vs.length)
  (jt : ∀ (i : Nat) (p : cV) (v : Value), ps[i]? = some p → vs[i]? = some v → p.a.plain = true ∧ aG w F s aB p.a v (fun _ => False))
  (gA : ∀ p ∈ ps, p.ok s) (kJ : js ps = true) (br : bh C f (ps.map (·.d)) r (ps.map (·.o))) (aV : r.res = true)
  (aY : k7 ps = true → r.c7 = true ∧ ∀ p ∈ ps, p.o.c7 = true) :
  n8 C.P f vs.toArray w fun v aL => ∃ bL aT, bP w0 F0 X bL aT (i7 (fD s ps) ps) aB aL ∧ kX w0 X bL aT (i7 (fD s ps) ps) aB aL r v ∧ ∀ b, F b → bL b ∧ aL.heap[b]? = w.heap[b]? :=
 Ig h aR jt gA kJ (fun Fc lN eR _ _ ar => br w Fc lN eR vs (by simp [aR]) ar) aV aY
end
structure b2 where
 dst : Option Nat
 bG : fX
 guard : Option (Nat × Bool)
def v8 (ops : Array Oper) : Option (Nat × Bool) → Option (Option (Nat × Bool))
 | none => some none
 | some (j, b) => match (ops[j]?).bind (·.dst) with
   | some t => some (some (t, b))
   | none => none
structure Fr where
 n : Nat
 fx : List Nat
def k8 (n : Fr) : Option Nat → Bool
 | none => true
 | some t => decide (t < n.n) && !n.fx.contains t
def n_ (op : Op) : fX := match c1 op with
 | some bG => bG
 | none => .bad
def o4 (n : Fr) (ops : Array Oper) (o : Oper) : Option b2 :=
 if k8 n o.dst = true then match v8 ops o.guard with
  | some g => some ⟨o.dst, n_ o.op, g⟩
  | none => none
 else none
def o5 (n : Fr) (ops : Array Oper) : List Oper → Option (List b2)
 | [] => some []
 | o :: os => match o4 n ops o, o5 n ops os with
   | some r, some rs => some (r :: rs)
   | _, _ => none
def yY (C : ck) (s : ao) (f : aF) (args : List aF) (K : I → ao → Prop) : Prop :=
 ∃ (g : FuncId) (caps : List I) (ps : List cV) (r : I), aK s f = .fn g caps ∧ I.gh caps = true ∧ ps.map (·.a) = args.map (aK s) ++ caps ∧ (∀ p ∈ ps, p.ok s) ∧ js ps = true ∧
   bh C g (ps.map (·.d)) r (ps.map (·.o)) ∧ r.res = true ∧ (k7 ps = true → r.c7 = true ∧ ∀ p ∈ ps, p.o.c7 = true) ∧ K r (i7 (fD s ps) ps)
mutual
def I.hP (s : ao) : I → Bool
 | .h x q => q.isEmpty && (s x).own
 | .ab x _ => !(s x).plain
 | .ar _ _ => false
 | .hole => true
 | .fn _ cap => I.qz s cap
 | d => d.plain
def I.qz (s : ao) : List I → Bool
 | [] => true
 | d :: ds => d.hP s && I.qz s ds
end
def pK (s : ao) : List (Nat × I) → ao
 | [] => s
 | p :: L => pK (dw s p.1 p.2) L
def o6 (s : ao) : List (Nat × I) → Bool
 | [] => true
 | p :: L => p.2.hP s && o6 s L
def lO (s : ao) (us : List Nat) : List (Nat × I) := us.map fun u => (u, s u)
def nr (C : ck) (s : ao) (bG : fX) (K : I → ao → Prop) : Prop :=
 match bG with
 | .call f args => ∃ (g : FuncId) (caps : List I) (ps : List cV) (r : I), aK s f = .fn g caps ∧ I.gh caps = true ∧ ps.map (·.a) = args.map (aK s) ++ caps ∧ (∀ p ∈ ps, p.ok s) ∧ js ps = true ∧
   bh C g (ps.map (·.d)) r (ps.map (·.o)) ∧ r.res = true ∧ (k7 ps = true → r.c7 = true ∧ ∀ p ∈ ps, p.o.c7 = true) ∧ K r (i7 (fD s ps) ps)
 | .shr bG => ∃ av s1, bI C s bG = some (av, s1) ∧ av.tree = true ∧ (∀ vs, av ≠ .tuple vs) ∧ K av.share s1
 | .l_ f args u x => s u = .h x [] ∧ (s x).own = true ∧ yY C s f args fun av s1 => s1 u = .hole ∧ (s1 x).own = true ∧ K av (dw s1 u (.h x []))
 | .ma f args us => o6 s (lO s us) = true ∧ yY C s f args fun av s1 => o6 s1 (lO s us) = true ∧ K av (pK s1 (lO s us))
 | bG => ∃ av s1, bI C s bG = some (av, s1) ∧ K av s1
theorem yZ {C : ck} {s : ao} {bG : fX} {K du : I → ao → Prop} (h : nr C s bG K) (az : ∀ av s, K av s → du av s) : nr C s bG du := by
 cases bG with
 | call f args =>
   obtain ⟨g, caps, ps, r, ag, hr, ah, aI, a_, bN, cQ, c5, fg⟩ := h
   exact ⟨g, caps, ps, r, ag, hr, ah, aI, a_, bN, cQ, c5, az _ _ fg⟩
 | shr bG =>
   obtain ⟨av, s1, ag, ah, aI, a_⟩ := h
   exact ⟨av, s1, ag, ah, aI, az _ _ a_⟩
 | l_ f args u x =>
   obtain ⟨bU, cb, g, caps, ps, r, ag, hr, ah, aI, a_, bN, cQ, c5, fg, ie, h1⟩ := h
   exact ⟨bU, cb, g, caps, ps, r, ag, hr, ah, aI, a_, bN, cQ, c5, fg, ie, az _ _ h1⟩
 | ma f args us =>
   obtain ⟨cb, g, caps, ps, r, ag, hr, ah, aI, a_, bN, cQ, c5, fg, ie⟩ := h
   exact ⟨cb, g, caps, ps, r, ag, hr, ah, aI, a_, bN, cQ, c5, fg, az _ _ ie⟩
 | _ =>
   obtain ⟨av, s1, ag, ah⟩ := h
   exact ⟨av, s1, ag, az _ _ ah⟩
def lq (C : ck) (s : ao) (o : b2) (K : ao → Prop) : Prop :=
 match o.guard with
 | none => nr C s o.bG fun av s1 => K (fin s1 o.dst av)
 | some (t, b) => match s t with
   | .bool fJ => if fJ = b then nr C s o.bG (fun av s1 => K (fin s1 o.dst av)) else K (fin s o.dst (.tuple []))
   | .tuple [] => K (fin s o.dst (.tuple []))
   | _ => False
def k9 (C : ck) (s : ao) : List b2 → (ao → Prop) → Prop
 | [], K => K s
 | o :: os, K => lq C s o fun s1 => k9 C s1 os K
def jZ (C : ck) (ros : List b2) (s : ao) : List Nat → (ao → Prop) → Prop
 | [], K => K s
 | i :: l, K => match ros[i]? with
   | none => jZ C ros s l K
   | some o => lq C s o fun s1 => jZ C ros s1 l K
theorem QK (C : ck) (K : ao → Prop) : ∀ (rs pre : List b2) (s : ao), k9 C s rs K → jZ C (pre ++ rs) s ((List.range rs.length).map (· + pre.length)) K := by
 intro rs
 induction rs with
 | nil => intro pre s h; exact h
 | cons r rs ih =>
   intro pre s h
   rw [List.length_cons, List.range_succ_eq_map, List.map_cons, List.map_map]
   simp only [jZ, Nat.zero_add]
   rw [List.getElem?_append_right (Nat.le_refl _)]
   simp only [Nat.sub_self, List.getElem?_cons_zero]
   have key : ∀ s1, k9 C s1 rs K → jZ C (pre ++ r :: rs) s1 ((List.range rs.length).map ((fun x => x + pre.length) ∘ Nat.succ)) K := by
    intro s1 ag
    have := ih (pre ++ [r]) s1 ag
    simp only [List.append_assoc, List.singleton_append, List.length_append, List.length_singleton] at this
    have e : ((fun x => x + pre.length) ∘ Nat.succ) = fun x => x + (pre.length + 1) := by funext x; simp; omega
    rw [e]; exact this
   simp only [k9] at h
   unfold lq at h ⊢
   split
   ·rename_i bT; rw [bT] at h; exact yZ h fun av s1 => key _
   ·rename_i t b bT
    rw [bT] at h
    simp only at h
    split
    ·rename_i fJ ad
     rw [ad] at h
     simp only at h
     split
     ·rename_i ab; rw [if_pos ab] at h; exact yZ h fun av s1 => key _
     ·rename_i ab; rw [if_neg ab] at h; exact key _ h
    ·rename_i ad; rw [ad] at h; exact key _ h
    ·rename_i ag ah
     split at h
     ·exact ag _ (by assumption)
     ·exact ah (by assumption)
     ·exact h
structure Rel (w0 : World) (F0 X : Nat → Prop) (n : Fr) (ρ : Nat → Value) (s : ao) (a : Act) (w : World) : Prop where
 defers : a.defers = []
 size : a.tmps.size = n.n
 fixed : ∀ i ∈ n.fx, a.tmps.getD i undef = ρ i
 rel : ∃ F S, bP w0 F0 X F S s (fun t => a.tmps.getD t undef) w
section
variable {C : ck} {w0 w : World} {F0 X : Nat → Prop} {n : Fr} {ρ : Nat → Value} {s s1 : ao} {a : Act} {av : I} {Q : Exit → Act → World → Prop}
theorem v_ {dst : Option Nat} (v : Value) (ad : a.tmps.size = n.n) (ai : k8 n dst = true) :
  (fun t => (a.put dst v).tmps.getD t undef) = nU (fun t => a.tmps.getD t undef) dst v ∧ (a.put dst v).tmps.size = n.n ∧ (a.put dst v).defers = a.defers := by
 cases dst with
 | none => exact ⟨rfl, ad, rfl⟩
 | some d =>
   simp only [k8, Bool.and_eq_true, decide_eq_true_eq] at ai
   refine ⟨?_, by simp [Act.put, ad], rfl⟩
   funext t
   simp only [Act.put, nU, dw, Array.getD_eq_getD_getElem?]
   by_cases h : t = d
   ·subst h
    rw [if_pos rfl, Array.getElem?_setIfInBounds_self_of_lt (by omega)]; rfl
   ·rw [if_neg h, Array.getElem?_setIfInBounds_ne (fun e => h e.symm)]
theorem Rel.put {F S} (ai : a.defers = []) (ad : a.tmps.size = n.n) (br : ∀ i ∈ n.fx, a.tmps.getD i undef = ρ i) {aL : World} (aV : bP w0 F0 X F S s (fun t => a.tmps.getD t undef) aL) {v : Value} (aN : kX w0 X F S s (fun t => a.tmps.getD t undef) aL av v)
  {dst : Option Nat} (gA : k8 n dst = true) : Rel w0 F0 X n ρ (fin s dst av) (a.put dst v) aL := by
 obtain ⟨aS, aX, aQ⟩ := v_ (n := n) (dst := dst) v ad gA
 obtain ⟨aT, bx⟩ := aV.fin aN dst
 refine ⟨aQ.trans ai, aX, fun i al => ?_, F, aT, by rw [aS]; exact bx⟩
 rw [congrFun aS i]
 cases dst with
 | none => exact br i al
 | some d =>
   simp only [k8, Bool.and_eq_true, Bool.not_eq_true', List.contains_eq_mem, decide_eq_false_iff_not] at gA
   have dQ : i ≠ d := fun e => gA.2 (by rw [← e]; exact al)
   simp only [nU]
   rw [jH _ _ dQ]
   exact br i al
theorem Rel.skip (h : Rel w0 F0 X n ρ s a w) {dst : Option Nat} (gA : k8 n dst = true) : Rel w0 F0 X n ρ (fin s dst (.tuple [])) (a.put dst undef) w := by
 obtain ⟨ai, ad, br, F, S, aV⟩ := h
 refine Rel.put (av := .tuple []) ai ad br aV (.inl ⟨rfl, (aG.cJ (d := .tuple []) rfl).2 ⟨?_, ?_⟩⟩) gA
 ·exact ⟨#[], rfl, rfl, fun k d x az => by simp at az⟩
 ·rw [au, a8]; rfl
theorem Il {F : Nat → Prop} {aB : Nat → Value} {w : World} : ∀ {ds es : List I} {vs us : List Value}, ei w F s aB ds vs → ei w F s aB es us → ei w F s aB (ds ++ es) (vs ++ us) := by
 intro ds
 induction ds with
 | nil => intro es vs us ag ah; rw [ei] at ag; subst ag; exact ah
 | cons d ds ih =>
   intro es vs us ag ah
   rw [ei] at ag
   obtain ⟨v, jG, rfl, g1, g2⟩ := ag
   rw [List.cons_append, List.cons_append, ei]
   exact ⟨v, _, rfl, g1, ih g2 ah⟩
theorem Im {F : Nat → Prop} {aB : Nat → Value} {w : World} : ∀ {ds : List I} {vs : List Value}, ei w F s aB ds vs → ds.length = vs.length ∧ ∀ (i : Nat) (d : I) (v : Value), ds[i]? = some d → vs[i]? = some v → aG w F s aB d v (fun _ => False) := by
 intro ds
 induction ds with
 | nil => intro vs h; rw [ei] at h; subst h; exact ⟨rfl, fun i d v h => by simp at h⟩
 | cons d ds ih =>
   intro vs h
   rw [ei] at h
   obtain ⟨v, jG, rfl, g1, g2⟩ := h
   obtain ⟨bU, cb⟩ := ih g2
   refine ⟨by simp [bU], fun i bz gj ai aN => ?_⟩
   cases i with
   | zero => simp at ai aN; subst ai aN; exact g1
   | succ i => exact cb i bz gj (by simpa using ai) (by simpa using aN)
theorem mG {op : Op} {bG : fX} (h : n_ op = bG) : bG = .bad ∨ c1 op = some bG := by
 unfold n_ at h
 split at h
 ·subst h; right; assumption
 ·exact .inl h.symm
theorem QL {op : Op} {bG : fX} : c1 op ≠ some (.shr bG) := by
 intro h
 unfold c1 at h
 split at h <;> (try split at h) <;> (try split at h) <;> (try split at h) <;> (try simp [Option.map_eq_some_iff] at h)
theorem QM {op : Op} {f : aF} {args : List aF} {u x : Nat} : c1 op ≠ some (.l_ f args u x) := by
 intro h
 unfold c1 at h
 split at h <;> (try split at h) <;> (try split at h) <;> (try split at h) <;> (try simp [Option.map_eq_some_iff] at h)
theorem QN {op : Op} {f : aF} {args : List aF} {us : List Nat} : c1 op ≠ some (.ma f args us) := by
 intro h
 unfold c1 at h
 split at h <;> (try split at h) <;> (try split at h) <;> (try split at h) <;> (try simp [Option.map_eq_some_iff] at h)
theorem QO {op : Op} {T : TypeId} {x : aF} : c1 op ≠ some (.kZ T x) := by
 intro h
 unfold c1 at h
 split at h <;> (try split at h) <;> (try split at h) <;> (try split at h) <;> (try simp [Option.map_eq_some_iff] at h)
theorem QP {op : Op} {x : aF} : c1 op ≠ some (.qv x) := by
 intro h
 unfold c1 at h
 split at h <;> (try split at h) <;> (try split at h) <;> (try split at h) <;> (try simp [Option.map_eq_some_iff] at h)
theorem QQ {op : Op} {x : aF} : c1 op ≠ some (.pG x) := by
 intro h
 unfold c1 at h
 split at h <;> (try split at h) <;> (try split at h) <;> (try split at h) <;> (try simp [Option.map_eq_some_iff] at h)
theorem QR {op : Op} {x : aF} (h : c1 op = some (.cj x)) : ∃ dr, op = .move dr ∧ dH dr = some x := by
 unfold c1 at h
 split at h <;> (try split at h) <;> (try split at h) <;> (try split at h) <;> (try simp [Option.map_eq_some_iff] at h)
 exact ⟨_, rfl, h⟩
theorem QS {op : Op} {x : aF} (h : c1 op = some (.fN x)) : ∃ dr, op = .assign dr ∧ dH dr = some x := by
 unfold c1 at h
 split at h <;> (try split at h) <;> (try split at h) <;> (try split at h) <;> (try simp [Option.map_eq_some_iff] at h)
 exact ⟨_, rfl, h⟩
theorem QT {op : Op} {T bF : TypeId} {x y : aF} : c1 op ≠ some (.ni T bF x y) := by
 intro h
 unfold c1 at h
 split at h <;> (try split at h) <;> (try split at h) <;> (try split at h) <;> (try simp [Option.map_eq_some_iff] at h)
theorem QU {op : Op} {T bF : TypeId} {x y : aF} (h : c1 op = some (.app T bF x y)) : ∃ a b, op = .call ⟨.builtin .append, #[a, b], #[T, bF]⟩ ∧ dH a = some x ∧ dH b = some y := by
 cases op with
 | call c =>
   obtain ⟨callee, args, argTypes⟩ := c
   simp only [c1] at h
   split at h
   ·split at h <;> simp at h
   ·split at h <;> simp at h
   ·split at h <;> simp at h
   ·(split at h <;> try split at h) <;> simp at h
   ·(split at h <;> try split at h) <;> simp at h
   ·split at h
    ·rename_i a b wa yU mb rH
     split at h
     ·rename_i dr kq aq bt
      simp only [Option.some.injEq, fX.app.injEq] at h
      obtain ⟨rfl, rfl, rfl, rfl⟩ := h
      refine ⟨a, b, ?_, aq, bt⟩
      have aS : args = #[a, b] := by apply Array.ext'; exact mb
      have aX : argTypes = #[wa, yU] := by apply Array.ext'; exact rH
      subst aS aX
      rfl
     ·cases h
    ·cases h
   ·cases h
 | makeFunc fn first cs =>
   cases fn <;> simp only [c1] at h <;> first | (cases h; done) | (split at h <;> simp at h)
 | slice T x dc al hJ =>
   cases hJ <;> simp only [c1] at h <;> first | (cases h; done) | (split at h <;> simp at h)
 | _ => simp only [c1] at h <;> first | (cases h; done) | (simp at h; done) | (split at h <;> simp at h)
theorem bP.alias {F : Nat → Prop} {S : Nat → Nat → Prop} {aB : Nat → Value} {u x : Nat} (h : bP w0 F0 X F S s aB w) (hu : s u = .hole) (aq : (s x).own = true) (aN : cr (aB u) = cr (aB x)) (ag : Value.gH (aB u) = true) :
  bP w0 F0 X F (gu S u (fun _ => False)) (dw s u (.h x [])) aB w := by
 have eJ : dw aB u (aB u) = aB := by funext y; simp only [dw]; split <;> simp_all
 have := h.tc (t := u) (d := .h x []) (v := aB u) rfl (by
  rw [aG]
  intro d ai ar
  simp only [I.sub, Option.some.injEq] at ai
  subst ai
  exact ⟨cr (aB x), none, rfl, aN, ((pJ aq).2.2.2.2.2 _).2 ag⟩)
 rwa [eJ] at this
theorem kX.less {F : Nat → Prop} {S aT : Nat → Nat → Prop} {aB : Nat → Value} {s1 : ao} {v : Value} (b8 : ∀ u b, aT u b → S u b) (aV : av.res = true) (h : kX w0 X F S s aB w av v) : kX w0 X F aT s1 aB w av v := by
 rcases h with ⟨ag, ah⟩ | ⟨ag, ah, Sn, aI, a_, bN, cQ, c5⟩
 ·refine .inl ⟨ag, ?_⟩
  cases av <;> first
   | (simp [I.res] at aV; done)
   | (rw [aG]; trivial)
   | (rw [aG] at ah ⊢; exact ah)
 ·exact .inr ⟨ag, ah, Sn, aI, a_, bN, fun u b ab hu => cQ u b ab (b8 u b hu), c5⟩
theorem DD (bl : C.e0) (h : Rel w0 F0 X n ρ s a w) {o : Oper} {f : aF} {args : List aF} (cD : c1 o.op = some (.call f args)) (ai : k8 n o.dst = true) {K : I → ao → Prop} {L : ao → Prop} {next : Act → World → Prop}
  (hw : yY C s f args K) (qA : ∀ F S bL aT w aL av s1 v, bP w0 F0 X F S s (fun t => a.tmps.getD t undef) w → K av s1 → av.res = true → bP w0 F0 X bL aT s1 (fun t => a.tmps.getD t undef) aL → kX w0 X bL aT s1 (fun t => a.tmps.getD t undef) aL av v → (∀ b, F b → bL b ∧ aL.heap[b]? = w.heap[b]?) →
   ∃ s2 dG, L (fin s2 o.dst av) ∧ bP w0 F0 X bL dG s2 (fun t => a.tmps.getD t undef) aL ∧ kX w0 X bL dG s2 (fun t => a.tmps.getD t undef) aL av v)
  (aY : ∀ aA cK aL, L aA → Rel w0 F0 X n ρ aA cK aL → next cK aL) : o.wp C.P a w next Q := by
 have oa := h
 obtain ⟨iL, eH, hs, F, S, aV⟩ := h
 obtain ⟨g, caps, ps, r, ag, hr, ah, aI, a_, bN, cQ, c5, fg⟩ := hw
 obtain ⟨dst, op, ty, pos, after, guard⟩ := o
 simp only at cD ai qA
 cases op with
 | call c =>
   obtain ⟨callee, mf, argTypes⟩ := c
   simp only [c1] at cD
   split at cD
   ·split at cD
    ·rename_i wb _ _ QV xs br o3
     simp only [Option.some.injEq, fX.call.injEq] at cD
     obtain ⟨rfl, rfl⟩ := cD
     obtain ⟨f1, f2⟩ := fL aV (fun _ => rfl) br
     rw [ag, aG] at f2
     obtain ⟨arr, f3, f4⟩ := f2
     have rM : execOp a.eval { dst, op := .call { callee := .value wb, args := mf, argTypes }, type := ty, pos, after, guard } = callFunc g ((mf.toList.map a.eval ++ arr.toList).toArray) := by
      have : a.eval wb = .func (.func g) #[] arr := f3
      simp only [execOp, resolve, this, Deferred.ofValue, pure_bind, invoke]
      congr 1
      apply Array.ext'; simp
     unfold Oper.wp
     rw [rM]
     have wc : ei w F s (fun t => a.tmps.getD t undef) (xs.map (aK s) ++ caps) (mf.toList.map a.eval ++ arr.toList) := Il (yS aV (fun _ => rfl) _ _ (rG o3)) f4
     rw [← ah] at wc
     obtain ⟨gQ, l2⟩ := Im wc
     have fT : ∀ d ∈ xs.map (aK s) ++ caps, d.plain = true := by
      intro d ai
      rcases List.mem_append.1 ai with ai | ai
      ·obtain ⟨x, aq, rfl⟩ := List.mem_map.1 ai
       exact G2 s x fun av e => by
        subst e
        have hm := rG o3
        have : some (aF.c av) ∈ xs.map some := List.mem_map.2 ⟨_, aq, rfl⟩
        rw [← hm] at this
        obtain ⟨o, _, cg⟩ := List.mem_map.1 this
        cases o with
        | const v => simp only [dH, Option.map_eq_some_iff] at cg; obtain ⟨c, aw, e⟩ := cg; cases e; exact CK aw
        | tmp n => simp [dH] at cg
        | func g => simp [dH] at cg
        | global g => simp [dH] at cg
      ·obtain ⟨k, az⟩ := List.getElem?_of_mem ai
       exact yu hr az
     have DE := QJ (C := C) aV (ps := ps) (vs := mf.toList.map a.eval ++ arr.toList) (f := g) (r := r) (by simpa using gQ)
      (fun i p v ar aN => ⟨fT p.a (by rw [← ah]; exact List.mem_map.2 ⟨p, List.mem_of_getElem? ar, rfl⟩), l2 i p.a v (by simp [ar]) aN⟩) aI a_ bN cQ c5
     rcases DE with ⟨dB, bg⟩ | ⟨v, aL, dB, bL, aT, bg, dm, ch⟩
     ·rw [dB, Oper.upon_enter]
      refine Calls.mono bg ?_
      rintro e aL ⟨v, rfl, bL, aT, bU, cb, e5⟩
      obtain ⟨s2, dG, m1, m2, m3⟩ := qA _ _ _ _ _ _ _ _ _ aV fg cQ bU cb e5
      exact aY _ _ _ m1 (Rel.put iL eH hs m2 m3 ai)
     ·rw [dB, Oper.upon_value]
      obtain ⟨s2, dG, m1, m2, m3⟩ := qA _ _ _ _ _ _ _ _ _ aV fg cQ bg dm ch
      exact aY _ _ _ m1 (Rel.put iL eH hs m2 m3 ai)
    ·cases cD
   ·split at cD
    ·simp only [Option.map_eq_some_iff] at cD; obtain ⟨_, _, cD⟩ := cD; cases cD
    ·cases cD
   ·split at cD
    ·simp only [Option.map_eq_some_iff] at cD; obtain ⟨_, _, cD⟩ := cD; cases cD
    ·cases cD
   iterate 3
    ·split at cD
     ·split at cD <;> cases cD
     ·cases cD
   ·cases cD
 | makeFunc fn first cs =>
   cases fn <;> simp only [c1] at cD <;> first | (cases cD; done) | (split at cD <;> simp at cD)
 | slice T x dc al hJ =>
   cases hJ <;> simp only [c1] at cD <;> first | (cases cD; done) | (split at cD <;> simp at cD)
 | _ => simp only [c1] at cD <;> first | (cases cD; done) | (simp at cD; done) | (split at cD <;> simp at cD)
theorem QW (bl : C.e0) (h : Rel w0 F0 X n ρ s a w) {o : Oper} {bG : fX} (cD : c1 o.op = some bG) (ai : k8 n o.dst = true) {K : ao → Prop} {next : Act → World → Prop}
  (hw : nr C s bG fun av s1 => K (fin s1 o.dst av)) (aY : ∀ aA cK aL, K aA → Rel w0 F0 X n ρ aA cK aL → next cK aL) : o.wp C.P a w next Q := by
 have oa := h
 obtain ⟨iL, eH, hs, F, S, aV⟩ := h
 have plain : ∀ av s1, bI C s bG = some (av, s1) → K (fin s1 o.dst av) → o.wp C.P a w next Q := by
  intro av s1 he az
  obtain ⟨r, aL, v, bL, aT, ag, ah, aI, a_⟩ := HP (a := a) bl aV (fun _ => rfl) cD he
  unfold Oper.wp
  rw [ag]
  rcases ah with rfl | ⟨rfl, rfl⟩
  ·exact aY _ _ _ az (Rel.put iL eH hs aI a_ ai)
  ·exact aY _ _ _ az (Rel.put iL eH hs aI a_ ai)
 cases bG with
 | shr bG => exact (QL cD).elim
 | ni T bF x y => exact (QT cD).elim
 | call f args => exact DD bl ⟨iL, eH, hs, F, S, aV⟩ cD ai (K := fun av s1 => K (fin s1 o.dst av)) hw (fun _ _ _ aT _ _ _ s1 _ _ ah _ aI a_ _ => ⟨s1, aT, ah, aI, a_⟩) aY
 | l_ f args u x => exact (QM cD).elim
 | ma f args L => exact (QN cD).elim
 | kZ T x => exact (QO cD).elim
 | qv x => exact (QP cD).elim
 | pG x => exact (QQ cD).elim
 | _ =>
   obtain ⟨av, s1, he, az⟩ := hw
   exact plain av s1 he az
theorem kX.share {F : Nat → Prop} {S : Nat → Nat → Prop} {aB : Nat → Value} {v : Value} (h : bP w0 F0 X F S s aB w) (aN : kX w0 X F S s aB w av v) (bb : av.tree = true) (aY : ∀ vs, av ≠ .tuple vs) :
  ∃ bL, bP w0 F0 X bL S s aB w ∧ kX w0 X bL S s aB w av.share v := by
 obtain ⟨Sn, gM, gJ, iK, ik, nb, rN⟩ : ∃ Sn : Nat → Prop, eo av v ∧ au w F av (cr v) Sn ∧ (∀ b, Sn b → b < w.heap.size) ∧ (∀ b, Sn b → ¬ F b) ∧ (∀ u b, Sn b → ¬ S u b) ∧ (∀ b, Sn b → X b ∨ w0.heap.size ≤ b) := by
  rcases aN with ⟨ag, ah⟩ | ⟨_, ah, Sn, aI, a_, bN, cQ, c5⟩
  ·rw [aG.cJ bb] at ah
   exact ⟨fun _ => False, ah.1, ah.2, fun _ h => h.elim, fun _ h => h.elim, fun _ _ h => h.elim, fun _ h => h.elim⟩
  ·exact ⟨Sn, ah, aI, a_, bN, cQ, c5⟩
 refine ⟨fun b => F b ∨ Sn b, ?_, .inl ⟨Ds av, ?_⟩⟩
 ·exact {
   hq := fun b ab => .inl (h.hq b ab)
   hM := fun b ab => by
    rcases ab with ab | ab
    ·exact h.hM b ab
    ·exact .inr (rN b ab)
   fA := fun b ab => ab.elim (h.fA b) (iK b)
   e4 := h.e4
   gi := fun t b ab br => br.elim (h.gi t b ab) (fun ad => nb t b ad ab)
   fK := h.fK
   eh := h.eh
   dC := fun t => aG.frame (fun _ _ => rfl) (fun b ab => .inl ab) (fun _ _ _ => rfl) h.dC _ _ _ (fun _ _ => rfl) (h.dC t)
   old := h.old
   size := h.size
   os := h.os
   tape := h.tape
   output := h.output }
 ·have QX : av.share.tree = true := by cases av <;> first | exact bb | rfl
  rw [aG.cJ QX]
  exact ⟨Du aY gM, au.shared (fun b ab => .inl ab) av _ Sn (fun b ab => .inr ab) gJ⟩
theorem QY {op : Op} {T : TypeId} {x : aF} (h : c1 op = some (.cU T x)) : ∃ a, op = .box T a ∧ dH a = some x := by
 cases op with
 | box wa a =>
   simp only [c1, Option.map_eq_some_iff, fX.cU.injEq] at h
   obtain ⟨y, bt, rfl, rfl⟩ := h
   exact ⟨a, rfl, bt⟩
 | _ =>
   exfalso
   unfold c1 at h
   split at h <;> (try split at h) <;> (try split at h) <;> (try split at h) <;> (try simp [Option.map_eq_some_iff] at h) <;> contradiction
theorem QZ {aL : World} {F bL : Nat → Prop} {s s1 : ao} {aB : Nat → Value} (bu : ∀ b, F b → bL b ∧ aL.heap[b]? = w.heap[b]?) : ∀ (n : Nat),
  (∀ (d : I) (v : Value) (S : Nat → Prop), SizeOf.sizeOf d ≤ n → d.hP s = true → d.hP s1 = true → aG w F s aB d v S → aG aL bL s1 aB d v (fun _ => False)) ∧
  (∀ (ds : List I) (vs : List Value), SizeOf.sizeOf ds ≤ n → I.qz s ds = true → I.qz s1 ds = true → ei w F s aB ds vs → ei aL bL s1 aB ds vs) := by
 intro n
 induction n with
 | zero =>
   refine ⟨fun d v S b6 => ?_, fun ds vs b6 => ?_⟩
   ·cases d <;> simp at b6 <;> omega
   ·cases ds <;> simp at b6 <;> omega
 | succ n ih =>
   refine ⟨fun d v S b6 bU cb h => ?_, fun ds vs b6 bU cb h => ?_⟩
   ·cases d with
    | hole => rw [aG]; trivial
    | h x q =>
      simp only [I.hP, Bool.and_eq_true, List.isEmpty_iff] at bU cb
      obtain ⟨rfl, bU⟩ := bU
      rw [aG] at h ⊢
      obtain ⟨c6, a, fp, gW, h3⟩ := h (s x) (by simp only [I.sub]) (pJ bU).1
      simp only [dp, Option.some.injEq, Prod.mk.injEq, true_and] at fp
      intro d ai _
      simp only [I.sub, Option.some.injEq] at ai
      subst ai
      exact ⟨cr (aB x), none, by simp only [dp], by rw [gW, ← fp.1], ((pJ cb.2).2.2.2.2.2 _).2 (((pJ bU).2.2.2.2.2 _).1 h3)⟩
    | ar x q => simp [I.hP] at bU
    | ab x k =>
      simp only [I.hP, Bool.not_eq_true'] at bU
      rw [aG] at h ⊢
      obtain ⟨b, cur, e, fr, ag, ah, aI, a_⟩ := h bU
      exact fun _ => ⟨b, cur, e, fr, ag, (bu b ah).1, (bu b ah).2.trans aI, a_⟩
    | fn f cap =>
      simp only [I.hP] at bU cb
      rw [aG] at h ⊢
      obtain ⟨arr, rfl, aw⟩ := h
      exact ⟨arr, rfl, ih.2 _ _ (by simp at b6; omega) bU cb aw⟩
    | _ =>
      simp only [I.hP] at bU
      have bx := (aG.cJ rfl).1 h
      exact (aG.cJ rfl).2 ⟨bx.1, au.mono (fun b ab => (bu b ab).1) _ _ _ _ (fun _ h => h) (au.frame (fun b ab => (bu b ab).2) _ _ _ (fun _ h => h.elim) (au.plain _ _ _ _ bU bx.2))⟩
   ·cases ds with
    | nil => rw [ei] at h ⊢; exact h
    | cons d ds =>
      simp only [I.qz, Bool.and_eq_true] at bU cb
      rw [ei] at h ⊢
      obtain ⟨v, jG, rfl, ag, ah⟩ := h
      simp at b6
      exact ⟨v, jG, rfl, ih.1 _ _ _ (by omega) bU.1 cb.1 ag, ih.2 _ _ (by omega) bU.2 cb.2 ah⟩
theorem Q0 {s : ao} {d : I} (h : d.hP s = true) : d.plain = true := by
 cases d <;> first | rfl | (simpa [I.hP] using h)
theorem bP.pK {F : Nat → Prop} {aB : Nat → Value} : ∀ (L : List (Nat × I)) (s : ao) (S : Nat → Nat → Prop), bP w0 F0 X F S s aB w → (∀ p ∈ L, p.2.plain = true ∧ aG w F s aB p.2 (aB p.1) (fun _ => False)) →
  ∃ aT, bP w0 F0 X F aT (c0.pK s L) aB w ∧ ∀ u b, aT u b → S u b := by
 intro L
 induction L with
 | nil => intro s S h _; exact ⟨S, h, fun _ _ h => h⟩
 | cons p L ih =>
   intro s S h qA
   obtain ⟨ag, ah⟩ := qA p (by simp)
   have eJ : dw aB p.1 (aB p.1) = aB := by funext u; simp only [dw]; split <;> simp_all
   have aI := h.tc (t := p.1) ag ah
   rw [eJ] at aI
   have hC : ∀ x, x ≠ p.1 → (dw s p.1 p.2 x).tree = true → dw s p.1 p.2 x = s x ∧ aB x = aB x := fun x aq _ => ⟨jH _ _ aq, rfl⟩
   obtain ⟨aT, g1, g2⟩ := ih _ _ aI (fun q cv => ⟨(qA q (by simp [cv])).1, (aG.void (t := p.1) hC (by rw [l7]; exact ag) _).1 _ _ _ (Nat.le_refl _) (qA q (by simp [cv])).2⟩)
   refine ⟨aT, g1, fun u b ab => ?_⟩
   have := g2 u b ab
   simp only [gu] at this
   split at this
   ·exact this.elim
   ·exact this
theorem DF {s : ao} : ∀ {L : List (Nat × I)}, o6 s L = true → ∀ p ∈ L, p.2.hP s = true
 | q :: L, ag, p, ar => by
   simp only [o6, Bool.and_eq_true] at ag
   rcases List.mem_cons.1 ar with rfl | ar
   ·exact ag.1
   ·exact DF ag.2 p ar
theorem Q1 {s : ao} {us : List Nat} {p : Nat × I} (h : p ∈ lO s us) : p.1 ∈ us ∧ s p.1 = p.2 := by
 obtain ⟨u, hu, rfl⟩ := List.mem_map.1 h
 exact ⟨hu, rfl⟩
theorem Q2 (bl : C.e0) (h : Rel w0 F0 X n ρ s a w) {o : Oper} {bG : fX} (cD : n_ o.op = bG.base) (ai : k8 n o.dst = true) {K : ao → Prop} {next : Act → World → Prop}
  (hw : nr C s bG fun av s1 => K (fin s1 o.dst av)) (aY : ∀ aA cK aL, K aA → Rel w0 F0 X n ρ aA cK aL → next cK aL) : o.wp C.P a w next Q := by
 cases bG with
 | shr bG =>
   obtain ⟨av, s1, he, bb, mc, az⟩ := hw
   rcases mG cD with cD | cD
   ·change bG = .bad at cD
    subst cD; cases he
   obtain ⟨iL, eH, hs, F, S, aV⟩ := h
   obtain ⟨r, aL, v, bL, aT, ag, ah, aI, a_⟩ := HP (a := a) bl aV (fun _ => rfl) cD he
   obtain ⟨vZ, g3, g4⟩ := kX.share aI a_ bb mc
   unfold Oper.wp
   rw [ag]
   rcases ah with rfl | ⟨rfl, rfl⟩
   ·exact aY _ _ _ az (Rel.put iL eH hs g3 g4 ai)
   ·exact aY _ _ _ az (Rel.put iL eH hs g3 g4 ai)
 | bad => obtain ⟨av, s1, he, _⟩ := hw; cases he
 | l_ f args u x =>
   obtain ⟨aS, aX, hw⟩ := hw
   rcases mG cD with ab | ab
   ·cases ab
   ·refine DD bl h ab ai hw ?_ aY
    rintro F S bL aT w aL av s1 v gM ⟨gJ, iK, ik⟩ nb rN we _
    have yA := gM.dC u
    rw [aS, aG] at yA
    obtain ⟨c6, a0, fp, gW, h3⟩ := yA (s x) (by simp only [I.sub]) (pJ aX).1
    simp only [dp, Option.some.injEq, Prod.mk.injEq, true_and] at fp
    have Q3 : ∀ y b, gu aT u (fun _ => False) y b → aT y b := by
     intro y b ab
     simp only [gu] at ab
     split at ab
     ·exact ab.elim
     ·exact ab
    exact ⟨_, _, ik, rN.alias gJ iK (by rw [gW, ← fp.1]) (((pJ aX).2.2.2.2.2 _).1 h3), we.less Q3 nb⟩
 | ma f args L =>
   obtain ⟨aX, hw⟩ := hw
   rcases mG cD with ab | ab
   ·cases ab
   ·refine DD bl h ab ai hw ?_ aY
    rintro F S bL aT w aL av s1 v gM ⟨gJ, ik⟩ nb rN we Q4
    obtain ⟨dG, g1, g2⟩ := rN.pK (lO s L) s1 aT (fun p ar => by
     have dB := (Q1 ar).2
     have bg := DF aX p ar
     have dm := DF gJ p ar
     refine ⟨Q0 bg, (QZ Q4 _).1 _ _ (S p.1) (Nat.le_refl _) bg dm ?_⟩
     have := gM.dC p.1
     rw [dB] at this
     exact this)
    exact ⟨_, dG, ik, g1, we.less g2 nb⟩
 | kZ T x =>
   obtain ⟨av, s1, he, az⟩ := hw
   rcases mG cD with ab | ab
   ·cases ab
   ·obtain ⟨dr, ob, aq⟩ := QY ab
    obtain ⟨iL, eH, hs, F, S, aV⟩ := h
    obtain ⟨dst, op, ty, pos, after, guard⟩ := o
    simp only at ob ai az
    subst ob
    obtain ⟨r, aL, v, bL, aT, ag, ah, aI, a_⟩ : Next C w0 F0 X (fun t => a.tmps.getD t undef) w (execOp a.eval ⟨dst, .box T dr, ty, pos, after, guard⟩) av s1 := (O5 (T := T) aV (fL aV (fun _ => rfl) aq).2 he).next
    unfold Oper.wp
    rw [ag]
    rcases ah with rfl | ⟨rfl, rfl⟩
    ·exact aY _ _ _ az (Rel.put iL eH hs aI a_ ai)
    ·exact aY _ _ _ az (Rel.put iL eH hs aI a_ ai)
 | pG x =>
   obtain ⟨av, s1, he, az⟩ := hw
   rcases mG cD with ab | ab
   ·cases ab
   ·obtain ⟨dr, ob, aq⟩ := QR ab
    obtain ⟨iL, eH, hs, F, S, aV⟩ := h
    obtain ⟨dst, op, ty, pos, after, guard⟩ := o
    simp only at ob ai az
    subst ob
    simp only [bI] at he
    obtain ⟨g1, g2⟩ := fL aV (fun _ => rfl) aq
    obtain ⟨r, aL, v, bL, aT, ag, ah, aI, a_⟩ : Next C w0 F0 X (fun t => a.tmps.getD t undef) w (execOp a.eval ⟨dst, .move dr, ty, pos, after, guard⟩) av s1 := by
     unfold o0 at he
     split at he
     ·rename_i y q bt
      rw [bt] at g1 g2
      obtain ⟨b5, k0, bU, cb, Sn, e5, dX, fB, eC, jq, _⟩ := oO aV g1 g2 he
      exact ⟨_, w, _, F, b5, rfl, .inl rfl, k0, .inr ⟨bU, cb, Sn, e5, dX, fB, eC, jq⟩⟩
     ·simp only [Option.some.injEq, Prod.mk.injEq] at he
      obtain ⟨rfl, rfl⟩ := he
      exact ⟨_, w, _, F, S, rfl, .inl rfl, aV, .inl ⟨g1, g2⟩⟩
    unfold Oper.wp
    rw [ag]
    rcases ah with rfl | ⟨rfl, rfl⟩
    ·exact aY _ _ _ az (Rel.put iL eH hs aI a_ ai)
    ·exact aY _ _ _ az (Rel.put iL eH hs aI a_ ai)
 | qv x =>
   obtain ⟨av, s1, he, az⟩ := hw
   rcases mG cD with ab | ab
   ·cases ab
   ·obtain ⟨dr, ob, aq⟩ := QS ab
    obtain ⟨iL, eH, hs, F, S, aV⟩ := h
    obtain ⟨dst, op, ty, pos, after, guard⟩ := o
    simp only at ob ai az
    subst ob
    simp only [bI, Option.some.injEq, Prod.mk.injEq] at he
    obtain ⟨rfl, rfl⟩ := he
    obtain ⟨g1, g2⟩ := fL aV (fun _ => rfl) aq
    obtain ⟨r, aL, v, bL, aT, ag, ah, aI, a_⟩ : Next C w0 F0 X (fun t => a.tmps.getD t undef) w (execOp a.eval ⟨dst, .assign dr, ty, pos, after, guard⟩) (aK s x) s := ⟨_, w, _, F, S, rfl, .inl rfl, aV, .inl ⟨g1, g2⟩⟩
    unfold Oper.wp
    rw [ag]
    rcases ah with rfl | ⟨rfl, rfl⟩
    ·exact aY _ _ _ az (Rel.put iL eH hs aI a_ ai)
    ·exact aY _ _ _ az (Rel.put iL eH hs aI a_ ai)
 | ni T bF x y =>
   obtain ⟨av, s1, he, az⟩ := hw
   rcases mG cD with ab | ab
   ·cases ab
   ·obtain ⟨dr, kq, ob, aq, bt⟩ := QU ab
    obtain ⟨iL, eH, hs, F, S, aV⟩ := h
    simp only [bI, Option.map_eq_some_iff, Prod.mk.injEq] at he
    obtain ⟨d, hp, rfl, rfl⟩ := he
    obtain ⟨v, aL, bL, aT, ag, ah, aI⟩ := PR (ty := o.type) bl aV (fL aV (fun _ => rfl) aq).2 (fL aV (fun _ => rfl) bt).2 hp
    have rM : execOp a.eval o = (do pure (.value (← Builtin.append_ #[T, bF] o.type #[a.eval dr, a.eval kq]))) := by
     obtain ⟨dst, op, ty, pos, after, guard⟩ := o
     simp only at ob
     subst ob
     simp [execOp, resolve, invoke, builtin]
    unfold Oper.wp
    rw [rM]
    simp only [Sem.run_bind, ag, Result.andThen]
    exact aY _ _ _ az (Rel.put iL eH hs ah aI ai)
 | _ =>
   rcases mG cD with ab | ab
   ·cases ab
   ·exact QW bl h ab ai hw aY
end
end Go.c0
