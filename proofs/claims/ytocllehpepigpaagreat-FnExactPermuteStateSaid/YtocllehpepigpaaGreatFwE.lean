/- Part of a proof that a law returns true for every input. No condition. -/
import Derived.Test.YtocllehpepigpaaGreatFwD
import Derived.Laws.Tables
namespace Go.dg
section
variable {C : cE} {w0 w : World} {F0 X F : Nat → Prop} {S : Nat → Nat → Prop} {s s1 : ar} {aC : Nat → Value} {av : I}
theorem Ar (z : List Value) : ∀ n, (List.range (n * z.length)).map (fun i => z[i % z.length]!) = (List.replicate n z).flatten
 | 0 => by simp
 | n + 1 => by
   rw [Nat.add_mul, Nat.one_mul, List.range_add, List.map_append, Ar z n, List.replicate_succ', List.flatten_append]
   congr 1
   simp only [List.map_map, List.flatten_cons, List.flatten_nil, List.append_nil]
   apply List.ext_getElem
   ·simp
   ·intro i ae ah
    have au : i < z.length := ah
    simp [Nat.mod_eq_of_lt au, au]
theorem bg.replicate {d : I} {cs : List Value} (h : ∀ aX, aw w F d cs aX) : ∀ n aX, bg w F (List.replicate n d) (List.replicate n cs).flatten aX
 | 0, aX => by simp only [List.replicate_zero, List.flatten_nil]; rw [bg]
 | n + 1, aX => by
   rw [List.replicate_succ, List.replicate_succ, List.flatten_cons, bg]
   exact ⟨cs, _, fun _ => False, fun _ => False, rfl, h _, bg.replicate h n _, fun _ h => h.elim, fun _ h => h.elim, fun _ h => h.elim⟩
def eQ (C : cE) (T : TypeId) (l c : I) : Option I :=
 match (C.T T).k, l, c with
 | .slice e, .int .i64 n, .int .i64 m => if n = m ∧ 0 ≤ n ∧ (C.T e).ok = true ∧ (C.T e).zero.wd = (C.T e).sz ∧ (flat (C.T e).zero).isSome = true ∧ (C.T e).sz ≠ 0 ∧ (C.T e).bytes * n ≤ 140737488355328 ∧ n ≤ 9223372036854775807 then
   some (.ao (C.T e).sz (List.replicate n.toNat (C.T e).zero)) else none
 | _, _, _ => none
theorem RL (bz : C.Ok) (h : b9 w0 F0 X F S s aC w) {T : TypeId} {l c : I} {Jp Jq : Value} (hl : aM w F s aC l Jp (fun _ => False)) (ax : aM w F s aC c Jq (fun _ => False)) (he : eQ C T l c = some av) :
  Good C w0 F0 X aC w (Instr.makeSlice T Jp Jq) av s := by
 unfold eQ at he
 split at he
 ·rename_i e n m aA
  have := qj hl; subst this
  have := qj ax; subst this
  obtain ⟨EN, d, EO, aU, ba, aW, cS, cZ, cn, bV⟩ := bz.info (gV aA (by simp))
  rw [aA] at bV
  have := lH bV; subst this
  split at he
  ·rename_i so
   obtain ⟨rfl, a_, oN, pK, qn, eM, Jr, ES⟩ := so
   simp only [Option.some.injEq] at he; subst he
   obtain ⟨i, EP, z, f1, f2, f3, f4, f5, f6, f7⟩ := bz.info oN
   obtain ⟨fE, l4⟩ := Option.isSome_iff_exists.1 qn
   have qo := f5 fE l4
   have gX : ∀ aX, aw w F (C.T e).zero fE aX := fun aX => (aw.flat _).1 _ fE aX (Nat.le_refl _) l4
   have oP : fE.length = (C.T e).sz := by rw [aw.length _ _ _ (gX (fun _ => False)), pK]
   obtain ⟨n, rfl⟩ := Int.eq_ofNat_of_zero_le a_
   simp only [Int.toNat_natCast]
   have uQ : IntKind.i64.wrap (n : Int) = n := by
    rw [IntKind.wrap_i64]; omega
   have uO : ∀ k (w : World), (askRoom k).run C.P w = .ok () w := by
    intro k w
    unfold askRoom
    split <;> rfl
   have oK : ((Array.range (n * (C.T e).sz)).map (fE.toArray[· % fE.toArray.size]!)).toList = (List.replicate n fE).flatten := by
    have := Ar fE n
    rw [oP] at this
    simpa [oP] using this
   have e7 : ¬ (281474976710656 < (i.bytes : Int) * n) := by
    rw [f3]; omega
   have As : ¬ ((n : Int) < 0) := by omega
   have run : (Instr.makeSlice T (.int .i64 n) (.int .i64 n)).run C.P w = .ok (.slice (some ⟨w.heap.size, 0, none⟩) n n)
     (w.alloc (.cells (if n * (C.T e).sz = 0 then (Array.range (n * (C.T e).sz)).map (fun _ => default) else (Array.range (n * (C.T e).sz)).map (fE.toArray[· % fE.toArray.size]!)) e)) := by
    by_cases bf : n * (C.T e).sz = 0
    ·simp [Instr.makeSlice, run_underlying cn, asInt, asIntOf, sk f1, uQ, e7, As, uO, kc f1, f2, bf, newRow]
    ·simp only [bf, if_false]
     simp [Instr.makeSlice, run_underlying cn, asInt, asIntOf, sk f1, uQ, e7, As, uO, kc f1, f2, bf, newRow, sl f1 f4, qo]
   have lD : (if n * (C.T e).sz = 0 then (Array.range (n * (C.T e).sz)).map (fun _ => (default : Value)) else (Array.range (n * (C.T e).sz)).map (fE.toArray[· % fE.toArray.size]!)).toList = (List.replicate n fE).flatten := by
    split
    ·rename_i bf
     have : n = 0 := by
      rcases Nat.mul_eq_zero.1 bf with h | h
      ·exact h
      ·exact (eM h).elim
     subst this
     simp
    ·exact oK
   generalize sB : (if n * (C.T e).sz = 0 then (Array.range (n * (C.T e).sz)).map (fun _ => (default : Value)) else (Array.range (n * (C.T e).sz)).map (fE.toArray[· % fE.toArray.size]!)) = cur at run lD
   have jB : (List.replicate n fE).flatten.length = n * (C.T e).sz := by simp [oP]
   have hh : cur.size = n * (C.T e).sz := by
    have : cur.size = cur.toList.length := by simp
    rw [this, lD, jB]
   have kx := h.xc (aO := w.alloc (.cells cur e)) (sz := (C.T e).sz) (cap := n) (xs := List.replicate n (C.T e).zero) (cur := cur) (e := e) (fr := (0, 0)) (Sn := fun _ => False) rfl rfl rfl rfl
    (fun o _ ⟨_, ah⟩ => absurd ah (Nat.not_lt_zero _)) (by simp) (by unfold maxLen; omega) hh (by intro d aj; rw [List.eq_of_mem_replicate aj]; exact pK)
    (by rw [lD, List.length_replicate, List.take_of_length_le (by rw [jB]; exact Nat.le_refl _)]; exact bg.replicate gX n _) (fun _ h => h.elim) (fun _ h => h.elim) (fun _ _ h => h.elim) (fun _ h => h.elim)
   rw [List.length_replicate] at kx
   exact ⟨_, _, F, S, run, kx.1, kx.2⟩
  ·cases he
 ·cases he
def n1 (C : cE) (T b0 : TypeId) (x y : I) : Option I :=
 match (C.T T).k, (C.T b0).k, x, y with
 | .slice e, .int _, .bp, .int .i64 n => if 0 ≤ n ∧ (C.T e).ok = true ∧ (C.T e).zero.wd = (C.T e).sz ∧ (flat (C.T e).zero).isSome = true ∧ (C.T e).sz ≠ 0 ∧ (C.T e).bytes * n ≤ 140737488355328 ∧ n ≤ 9223372036854775807 then
   some (.ao (C.T e).sz (List.replicate n.toNat (C.T e).zero)) else none
 | _, _, _, _ => none
theorem RM {P : Program} {T b0 ty e : TypeId} {k : IntKind} {i : TypeInfo} {z : Value} (bo : P.underlying T = some (.slice e)) (hu : P.underlying b0 = some (.int k)) (au : P.info? e = some i) (b8 : i.zero = some z)
  (n : Nat) (bf : n ≠ 0) (af : i.size ≠ 0) (a_ : n ≤ 9223372036854775807) (ad : n * i.bytes ≤ 140737488355328) :
  (Builtin.append_ #[T, b0] ty #[.slice none 0 0, .int .i64 n]).run P w = .ok (.slice (some ⟨w.heap.size, 0, none⟩) n (grownCap w n 0 e))
   (w.drew.alloc (.cells (Builtin.zeroCells z.cells n ++ Builtin.zeroCells z.cells (grownCap w n 0 e - n)) e)) := by
 have uQ : IntKind.i64.wrap (n : Int) = n := by rw [IntKind.wrap_i64]; omega
 have As : ¬ ((n : Int) < 0) := by omega
 have hmul : (n : Int) * (i.bytes : Int) = ((n * i.bytes : Nat) : Int) := by simp
 have e7 : ¬ (281474976710656 < (n : Int) * (i.bytes : Int)) := by rw [hmul]; omega
 have iu : ¬ (281474976710656 < Builtin.nextslicecap n 0 * i.bytes) := by
  have : Builtin.nextslicecap n 0 = n := by unfold Builtin.nextslicecap; rw [if_pos (by omega)]
  rw [this]; omega
 have uO : ∀ k (w : World), (askRoom k).run P w = .ok () w := by
  intro k w
  unfold askRoom
  split <;> rfl
 have EK : ¬ (9223372036854775807 < (n : Int)) := by omega
 have EU : n * i.size ≠ 0 := Nat.mul_ne_zero bf af
 simp [Builtin.append_, run_underlying bo, run_underlying hu, kc au, sk au, asInt, asIntOf, uQ, As, e7, iu, bf, Question.forced, uO, EK, sl au b8, newRow, grownCap, Builtin.firstCells]
 intro kT; exact (EU kT).elim
theorem RN (bz : C.Ok) (h : b9 w0 F0 X F S s aC w) {T b0 ty : TypeId} {x y : I} {jC i6 : Value} (aq : aM w F s aC x jC (fun _ => False)) (bl : aM w F s aC y i6 (fun _ => False)) (he : n1 C T b0 x y = some av) :
  Good C w0 F0 X aC w (Builtin.append_ #[T, b0] ty #[jC, i6]) av s := by
 unfold n1 at he
 split at he
 ·rename_i e aBd n aA Js
  have := qk aq; subst this
  have := qj bl; subst this
  obtain ⟨EN, d, EO, aU, ba, aW, cS, cZ, cn, bV⟩ := bz.info (gV aA (by simp))
  rw [aA] at bV
  have := lH bV; subst this
  obtain ⟨aBe, aBf, aBg, rp, sC, Au, xl, aBh, EV, Jt⟩ := bz.info (gV Js (by simp))
  rw [Js] at Jt
  have := w4 Jt; subst this
  split at he
  ·rename_i so
   obtain ⟨a_, oN, pK, qn, eM, Jr, ES⟩ := so
   simp only [Option.some.injEq] at he; subst he
   obtain ⟨i, EP, z, f1, f2, f3, f4, f5, f6, f7⟩ := bz.info oN
   obtain ⟨fE, l4⟩ := Option.isSome_iff_exists.1 qn
   have qo := f5 fE l4
   have gX : ∀ aX, aw w F (C.T e).zero fE aX := fun aX => (aw.flat _).1 _ fE aX (Nat.le_refl _) l4
   have oP : fE.length = (C.T e).sz := by rw [aw.length _ _ _ (gX (fun _ => False)), pK]
   obtain ⟨n, rfl⟩ := Int.eq_ofNat_of_zero_le a_
   simp only [Int.toNat_natCast]
   by_cases bf : n = 0
   ·subst bf
    have run : (Builtin.append_ #[T, b0] ty #[.slice none 0 0, .int .i64 ((0 : Nat) : Int)]).run C.P w = .ok (.slice none 0 0) w := by
     have uQ : IntKind.i64.wrap 0 = 0 := by decide
     simp [Builtin.append_, run_underlying cn, run_underlying EV, kc f1, sk f1, asInt, asIntOf, uQ]
    exact ⟨_, w, F, S, run, h, .inr ⟨rfl, rfl, fun _ => False, by simp only [cL, il]; rw [aw]; exact .inl ⟨rfl, _, rfl⟩, fun _ h => h.elim, fun _ h => h.elim, fun _ _ h => h.elim, fun _ h => h.elim⟩⟩
   ·have run := RM (w := w) (ty := ty) cn EV f1 f4 n bf (by rw [f2]; exact eM) (by omega) (by
     rw [f3]
     have : ((C.T e).bytes : Int) * (n : Int) = (((C.T e).bytes * n : Nat) : Int) := by simp
     rw [this] at Jr
     rw [Nat.mul_comm]; omega)
    rw [qo] at run
    have xf := grownCap_ge w n 0 e
    have xg := grownCap_le_maxLen w n 0 e (by unfold maxLen; omega)
    have Ju : ∀ m, (Builtin.zeroCells fE.toArray m).toList = (List.replicate m fE).flatten := by
     intro m
     have := Ar fE m
     unfold Builtin.zeroCells
     simpa [oP] using this
    have jB : ∀ m, (List.replicate m fE).flatten.length = m * (C.T e).sz := by intro m; simp [oP]
    generalize sB : Builtin.zeroCells fE.toArray n ++ Builtin.zeroCells fE.toArray (grownCap w n 0 e - n) = cur at run
    have lD : cur.toList = (List.replicate n fE).flatten ++ (List.replicate (grownCap w n 0 e - n) fE).flatten := by rw [← sB, Array.toList_append, Ju, Ju]
    have hh : cur.size = grownCap w n 0 e * (C.T e).sz := by
     have : cur.size = cur.toList.length := by simp
     rw [this, lD, List.length_append, jB, jB, ← Nat.add_mul]
     congr 1; omega
    have kx := h.xc (aO := w.drew.alloc (.cells cur e)) (sz := (C.T e).sz) (cap := grownCap w n 0 e) (xs := List.replicate n (C.T e).zero) (cur := cur) (e := e) (fr := (0, 0)) (Sn := fun _ => False) rfl rfl rfl rfl
     (fun o _ ⟨_, ah⟩ => absurd ah (Nat.not_lt_zero _)) (by simpa using xf) xg hh (by intro d aj; rw [List.eq_of_mem_replicate aj]; exact pK)
     (by rw [lD, List.length_replicate, List.take_left' (jB n)]; exact bg.replicate gX n _) (fun _ h => h.elim) (fun _ h => h.elim) (fun _ _ h => h.elim) (fun _ h => h.elim)
    rw [List.length_replicate] at kx
    exact ⟨_, _, F, S, run, kx.1, kx.2⟩
  ·cases he
 ·cases he
def iy (s : ar) (f : FuncId) (cs : List aI) : Option I := some (.fn f (cs.map (aP s)))
theorem Av {a : Act} (h : b9 w0 F0 X F S s aC w) (fb : ∀ t, aC t = a.tmps.getD t undef) : ∀ (os : List Operand) (xs : List aI), os.map ek = xs.map some → eL w F s aC (xs.map (aP s)) (os.map a.eval)
 | [], [], _ => by simp only [List.map_nil]; rw [eL]
 | [], x :: xs, h => by simp at h
 | o :: os, [], h => by simp at h
 | o :: os, x :: xs, bP => by
   simp only [List.map_cons, List.cons.injEq] at bP ⊢
   rw [eL]
   exact ⟨_, _, rfl, (gB h fb bP.1).2, Av h fb os xs bP.2⟩
theorem Jv : ∀ (vs : List Value) (k off : Nat) (A : Array Value) (l m r : List Value), A.toList = l ++ (m ++ r) → l.length = off + k → m.length = vs.length →
  ((vs.zipIdx k).foldl (fun cs (x : Value × Nat) => cs.setIfInBounds (off + x.2) x.1) A).toList = l ++ (vs ++ r)
 | [], k, off, A, l, m, r, jm, hl, hm => by
   have : m = [] := by simpa using hm
   subst this
   simpa using jm
 | v :: vs, k, off, A, l, m, r, jm, hl, hm => by
   obtain ⟨x, m, rfl⟩ : ∃ x iv, m = x :: iv := by
    cases m with
    | nil => simp at hm
    | cons x m => exact ⟨x, m, rfl⟩
   rw [List.zipIdx_cons, List.foldl_cons]
   have := Jv vs (k + 1) off (A.setIfInBounds (off + k) v) (l ++ [v]) m r (by
    rw [Array.toList_setIfInBounds, jm, ← hl, List.set_append_right _ _ (Nat.le_refl _)]
    simp) (by simp; omega) (by simpa using hm)
   simpa using this
def lj (os : List (Option Nat)) (a : I) : I := os.foldl (fun a o => kV o a) a
def eR (place : Nat → Option (Nat × Nat)) : ar → List I → List (Option Nat) → List (Nat × I) → Option (List I × ar)
 | s, zs, _, [] => some (zs, s)
 | s, zs, os, (k, a) :: r => match db s (lj os a), place k, zs[k]? with
   | some (d, s1), some (off, n), some z => match d with
     | .tuple _ => none
     | d => if d.wd = n ∧ z.wd = n ∧ I.eK (zs.take k) = off then eR place s1 (zs.set k d) (os ++ [(lj os a).owner]) r else none
   | _, _, _ => none
def n2 (w : World) (F : Nat → Prop) (s : ar) (aC : Nat → Value) : List (Nat × I) → List (Nat × Value) → Prop
 | [], [] => True
 | (k, a) :: r, (dA, v) :: h9 => k = dA ∧ a.plain = true ∧ aM w F s aC a v (fun _ => False) ∧ n2 w F s aC r h9
 | _, _ => False
theorem RO (x : Nat) : ∀ d : I, d.plain = true → (cx x d).plain = true
 | .h y q, _ => by simp only [cx]; split <;> (try split) <;> rfl
 | .az y q, _ => by simp only [cx]; split <;> rfl
 | .ad y q, _ => rfl
 | .fn f c, _ => by simp only [cx]; rfl
 | .hole, h => h
 | .bool _, h => h
 | .fu, h => h
 | .int _ _, h => h
 | .str _, h => h
 | .dI, h => h
 | .bp, h => h
 | .slice _, h => h
 | .ao _ _, h => h
 | .ref _, h => h
 | .bb _, h => h
 | .agg _, h => h
 | .tuple _, h => h
theorem RP (o : Option Nat) (d : I) (h : d.plain = true) : (kV o d).plain = true := by
 cases o with
 | none => exact h
 | some x => exact RO x d h
theorem n2.cx {w : World} {F : Nat → Prop} {s s1 : ar} {aC : Nat → Value} {o : Option Nat} (az : ∀ (bQ : I) (gU : Value) (aX : Nat → Prop), aM w F s aC bQ gU aX → aM w F s1 aC (kV o bQ) gU aX) :
  ∀ (r : List (Nat × I)) (h9 : List (Nat × Value)), n2 w F s aC r h9 → n2 w F s1 aC (r.map fun p => (p.1, kV o p.2)) h9
 | [], [], _ => trivial
 | (k, a) :: r, (dA, v) :: h9, h => by
   obtain ⟨ae, ah, aH, a6⟩ := h
   exact ⟨ae, RP _ _ ah, az _ _ _ aH, n2.cx az r h9 a6⟩
 | [], _ :: _, h => h.elim
 | _ :: _, [], h => h.elim
theorem EW {place : Nat → Option (Nat × Nat)} : ∀ (ps : List (Nat × I)) (vs : List (Nat × Value)) (os : List (Option Nat)) (s : ar) (S : Nat → Nat → Prop) (zs : List I) (A : Array Value) (h6 : Nat → Prop),
  b9 w0 F0 X F S s aC w → n2 w F s aC (ps.map fun p => (p.1, lj os p.2)) vs → bg w F zs A.toList h6 → (∀ b, h6 b → b < w.heap.size) → (∀ b, h6 b → ¬ F b) → (∀ u b, h6 b → ¬ S u b) → (∀ b, h6 b → X b ∨ w0.heap.size ≤ b) →
  ∀ ds s1, eR place s zs os ps = some (ds, s1) → ∃ mr cu ht, Instr.fill place A vs = some mr ∧ b9 w0 F0 X F cu s1 aC w ∧ bg w F ds mr.toList ht ∧ (∀ b, ht b → b < w.heap.size) ∧ (∀ b, ht b → ¬ F b) ∧ (∀ u b, ht b → ¬ cu u b) ∧
    (∀ b, ht b → X b ∨ w0.heap.size ≤ b) ∧ ds.length = zs.length ∧ I.eK ds = I.eK zs ∧ (∀ n, (∀ d ∈ zs, d.wd = n) → ∀ d ∈ ds, d.wd = n)
 | [], [], os, s, S, zs, A, h6, h, _, ae, ah, aH, a6, bN, ds, s1, he => by
   simp only [eR, Option.some.injEq, Prod.mk.injEq] at he
   obtain ⟨rfl, rfl⟩ := he
   exact ⟨A, S, h6, rfl, h, ae, ah, aH, a6, bN, rfl, rfl, fun _ h => h⟩
 | (k, a) :: ps, (dA, v) :: vs, os, s, S, zs, A, h6, h, az, ae, ah, aH, a6, bN, ds, s1, he => by
   obtain ⟨rfl, lk, oE, xm⟩ := az
   simp only [eR] at he
   split at he
   ·rename_i d uR off n z bo gG b8
    have key : ∀ d : I, (∀ ay, d ≠ .tuple ay) → db s (lj os a) = some (d, uR) → (if d.wd = n ∧ z.wd = n ∧ I.eK (zs.take k) = off then eR place uR (zs.set k d) (os ++ [(lj os a).owner]) ps else none) = some (ds, s1) →
      ∃ mr cu ht, Instr.fill place A ((k, v) :: vs) = some mr ∧ b9 w0 F0 X F cu s1 aC w ∧ bg w F ds mr.toList ht ∧ (∀ b, ht b → b < w.heap.size) ∧ (∀ b, ht b → ¬ F b) ∧ (∀ u b, ht b → ¬ cu u b) ∧
      (∀ b, ht b → X b ∨ w0.heap.size ≤ b) ∧ ds.length = zs.length ∧ I.eK ds = I.eK zs ∧ (∀ n, (∀ d ∈ zs, d.wd = n) → ∀ d ∈ ds, d.wd = n) := by
     intro d qi bo he
     split at he
     ·rename_i ax
      obtain ⟨nq, mK, Jw⟩ := ax
      obtain ⟨cu, h8, bc, bA, Sn, cU, eY, gg, iM, jk, l1, xj, Ao⟩ := pD h lk oE bo
      obtain ⟨cD, gE, cz, Sx, ij, jm, h7, f_, hk, ik, gP, mh⟩ := bg.pick zs _ _ k z ae b8
      have oK := w7 bA qi
      have uS := aw.length _ _ _ cU
      have Jx := aw.length _ _ _ gP
      have rj := mh w d (cL v) Sn (fun _ _ => rfl) (fun _ _ => rfl) cU (fun b RQ RR => by obtain ⟨u, hu⟩ := xj b RQ; exact a6 u b (f_ b RR) hu)
      have Jy := Jv (cL v) 0 off A cD gE cz jm (by rw [h7, Jw]; rfl) (by rw [Jx, uS, nq, mK])
      generalize xn : ((cL v).zipIdx 0).foldl (fun cs (x : Value × Nat) => cs.setIfInBounds (off + x.2) x.1) A = Ai at Jy
      obtain ⟨mr, ej, ht, fR, gW, hS, ku, l3, cB, oJ, fc, EX, Aw⟩ := EW (place := place) ps vs (os ++ [(lj os a).owner]) uR cu (zs.set k d) Ai (fun b => Sx b ∨ Sn b) h8 (by have := n2.cx Ao _ _ xm; simpa [lj, List.foldl_append, Function.comp_def] using this) (by rw [Jy]; exact rj)
       (by rintro b (ad | ad); exact ah b (f_ b ad); exact eY b ad) (by rintro b (ad | ad); exact aH b (f_ b ad); exact gg b ad)
       (by rintro u b (ad | ad); exact fun hu => a6 u b (f_ b ad) (l1 u b hu); exact iM u b ad) (by rintro b (ad | ad); exact bN b (f_ b ad); exact jk b ad) ds s1 he
      refine ⟨mr, ej, ht, ?_, gW, hS, ku, l3, cB, oJ, by rw [fc]; simp, by rw [EX]; exact Eb _ _ _ _ b8 (by rw [nq, mK]), ?_⟩
      ·have EY : off + n ≤ A.size := by
        have : A.size = A.toList.length := by simp
        rw [this, jm]; simp [h7, Jw, Jx, mK]
       simp only [Instr.fill, gG, oK, List.size_toArray, uS, nq]
       have lZ : ¬ (n ≠ n ∨ A.size < off + n) := by omega
       have RS : (cL v).toArray.zipIdx.foldl (fun cs (x : Value × Nat) => cs.setIfInBounds (off + x.2) x.1) A = Ai := by
        rw [← xn, ← Array.foldl_toList]; simp
       simp only [ne_eq, not_true_eq_false, decide_false, Bool.false_or, decide_eq_true_eq, gt_iff_lt]
       rw [if_neg (by simp; omega)]
       rw [show (cL v).toArray.zipIdx.foldl (fun cs x => match x with | (c, j) => cs.setIfInBounds (off + j) c) A = Ai from RS]
       exact fR
      ·intro EZ xo
       refine Aw EZ (Ec xo ?_)
       rw [nq, ← mK]; exact xo z (List.mem_of_getElem? b8)
     ·cases he
    split at he
    ·cases he
    ·rename_i qi
     exact key _ (fun ay e => qi ay e) bo he
   ·cases he
 | [], _ :: _, _, _, _, _, _, _, _, az, _, _, _, _, _, _, _, _ => az.elim
 | _ :: _, [], _, _, _, _, _, _, _, az, _, _, _, _, _, _, _, _ => az.elim
def fw (C : cE) (s : ar) (T : TypeId) (ps : List (Nat × I)) : Option (I × ar) :=
 match (C.T T).k, (C.T T).zero with
 | .struct ay, .agg zs => if (flat (.agg zs)).isSome = true ∧ (∀ f ∈ ay, (C.T f.1).ok = true) then
   (match eR (fun k => (ay[k]?).map fun f => (f.2, (C.T f.1).sz)) s zs [] ps with
   | some (ds, s1) => some (.agg ds, s1)
   | none => none) else none
 | _, _ => none
def eW (C : cE) (s : ar) (T : TypeId) (n : Nat) (ps : List (Nat × I)) : Option (I × ar) :=
 match (C.T T).k with
 | .slice e => if (C.T e).ok = true ∧ (C.T e).zero.wd = (C.T e).sz ∧ (flat (C.T e).zero).isSome = true ∧ (C.T e).sz ≠ 0 ∧ n * (C.T e).sz ≤ 16777216 then
   (match eR (fun k => some (k * (C.T e).sz, (C.T e).sz)) s (List.replicate n (C.T e).zero) [] ps with
   | some (ds, s1) => some (.ao (C.T e).sz ds, s1)
   | none => none) else none
 | _ => none
theorem RT (bz : C.Ok) : ∀ (gs : List Field), (∀ g ∈ gs, (C.T g.type).ok = true) →
  gs.mapM (fun f => (C.P.info? f.type).map fun i => (f.offset, i.size)) = some (gs.map fun g => (g.offset, (C.T g.type).sz)) := by
 intro gs
 induction gs with
 | nil => intro _; simp
 | cons g gs ih =>
   intro cb
   obtain ⟨i, d, z, f1, f2, f3, f4, f5, f6, f7⟩ := bz.info (cb g (by simp))
   have := ih (fun g h_ => cb g (by simp [h_]))
   simp [List.mapM_cons, f1, f2, this]
theorem RU (bz : C.Ok) (h : b9 w0 F0 X F S s aC w) {T : TypeId} {ps : List (Nat × I)} {vs : List (Nat × Value)} (az : n2 w F s aC ps vs) (he : fw C s T ps = some (av, s1)) :
  Good C w0 F0 X aC w (Instr.build T vs.toArray) av s1 := by
 unfold fw at he
 split at he
 ·rename_i ay zs aA b8
  split at he
  ·rename_i ax
   obtain ⟨qn, RV⟩ := ax
   split at he
   ·rename_i ds s2 jB
    simp only [Option.some.injEq, Prod.mk.injEq] at he
    obtain ⟨rfl, rfl⟩ := he
    obtain ⟨i, d, z, aU, ba, aW, cS, cZ, cn, bV⟩ := bz.info (gV aA (by simp))
    rw [aA] at bV
    obtain ⟨gs, rfl, Jz⟩ := w3 bV
    obtain ⟨fE, l4⟩ := Option.isSome_iff_exists.1 qn
    have qo := cZ fE (by rw [b8]; exact l4)
    have gX : bg w F zs fE.toArray.toList (fun _ => False) := by
     have := (aw.flat (w := w) (F := F) _).1 (.agg zs) fE (fun _ => False) (Nat.le_refl _) l4
     rw [aw] at this
     simpa using this
    have fi : n2 w F s aC (ps.map fun p => (p.1, lj [] p.2)) vs := by simpa [lj] using az
    obtain ⟨mr, cu, ht, fR, gW, hS, ku, l3, cB, oJ, fc, EX, Aw⟩ := EW ps vs [] s S zs fE.toArray (fun _ => False) h fi gX (fun _ h => h.elim) (fun _ h => h.elim) (fun _ _ h => h.elim) (fun _ h => h.elim) ds s2 jB
    have gG := RT bz gs.toList (fun g cb => RV (g.type, g.offset) (by rw [← Jz]; exact List.mem_map_of_mem cb))
    have RW : (fun (k : Nat) => (ay[k]?).map fun (f : TypeId × Nat) => (f.2, (C.T f.1).sz)) = fun (k : Nat) => ((gs.toList.map fun g => (g.offset, (C.T g.type).sz)).toArray)[k]? := by
     funext k
     rw [← Jz]
     simp only [List.getElem?_map, List.getElem?_toArray, Option.map_map]
     rfl
    rw [RW] at fR
    refine ⟨.agg mr, w, F, cu, run_build w T vs.toArray mr ?_, gW, .inr ⟨rfl, ⟨_, rfl⟩, ht, by simp only [cL, il]; rw [aw]; exact hS, ku, l3, cB, oJ⟩⟩
    unfold Program.built
    simp only [aU, cn, cS, gG, qo]
    exact fR
   ·cases he
  ·cases he
 ·cases he
theorem RX (bz : C.Ok) (h : b9 w0 F0 X F S s aC w) {T : TypeId} {n : Nat} {ps : List (Nat × I)} {vs : List (Nat × Value)} (az : n2 w F s aC ps vs) (he : eW C s T n ps = some (av, s1)) :
  Good C w0 F0 X aC w (Instr.buildSlice T n vs.toArray) av s1 := by
 unfold eW at he
 split at he
 ·rename_i e aA
  split at he
  ·rename_i ax
   obtain ⟨oN, pK, qn, eM, aBi⟩ := ax
   split at he
   ·rename_i ds s2 jB
    simp only [Option.some.injEq, Prod.mk.injEq] at he
    obtain ⟨rfl, rfl⟩ := he
    obtain ⟨EN, d, EO, aU, ba, aW, cS, cZ, cn, bV⟩ := bz.info (gV aA (by simp))
    rw [aA] at bV
    have := lH bV; subst this
    obtain ⟨i, EP, z, f1, f2, f3, f4, f5, f6, f7⟩ := bz.info oN
    obtain ⟨fE, l4⟩ := Option.isSome_iff_exists.1 qn
    have qo := f5 fE l4
    have gX : ∀ aX, aw w F (C.T e).zero fE aX := fun aX => (aw.flat _).1 _ fE aX (Nat.le_refl _) l4
    have oP : fE.length = (C.T e).sz := by rw [aw.length _ _ _ (gX (fun _ => False)), pK]
    generalize jm : ((Array.range (n * (C.T e).sz)).map ((if n * (C.T e).sz = 0 then #[] else fE.toArray)[· % (if n * (C.T e).sz = 0 then (#[] : Array Value) else fE.toArray).size]!)) = A
    have EY : A.toList = (List.replicate n fE).flatten := by
     rw [← jm]
     by_cases bf : n * (C.T e).sz = 0
     ·have : n = 0 := by
       rcases Nat.mul_eq_zero.1 bf with h | h
       ·exact h
       ·exact (eM h).elim
      subst this
      simp
     ·simp only [bf, if_false]
      have := Ar fE n
      rw [oP] at this
      simpa [oP] using this
    have fi : n2 w F s aC (ps.map fun p => (p.1, lj [] p.2)) vs := by simpa [lj] using az
    obtain ⟨mr, cu, ht, fR, gW, hS, ku, l3, cB, oJ, fc, EX, Aw⟩ := EW ps vs [] s S (List.replicate n (C.T e).zero) A (fun _ => False) h fi (by rw [EY]; exact bg.replicate gX n _) (fun _ h => h.elim) (fun _ h => h.elim) (fun _ _ h => h.elim) (fun _ h => h.elim) ds s2 jB
    have hlen : ds.length = n := by rw [fc]; simp
    have JA := Aw (C.T e).sz (by intro d aj; rw [List.eq_of_mem_replicate aj]; exact pK)
    have RY : mr.toList.length = n * (C.T e).sz := by rw [bg.sy hS JA, hlen]
    have RZ : mr.size = n * (C.T e).sz := by rw [← RY]; simp
    have aBj : n ≤ 16777216 := by
     have : n * 1 ≤ n * (C.T e).sz := Nat.mul_le_mul_left _ (by omega)
     omega
    have kx := gW.xc (aO := w.alloc (.cells mr e)) (sz := (C.T e).sz) (cap := n) (xs := ds) (cur := mr) (e := e) (fr := (0, 0)) (Sn := ht) rfl rfl rfl rfl
     (fun o _ ⟨_, ah⟩ => absurd ah (Nat.not_lt_zero _)) (by omega) (by unfold maxLen; omega) RZ JA (by rw [hlen, List.take_of_length_le (by omega)]; exact hS) ku l3 cB oJ
    rw [hlen] at kx
    refine ⟨_, _, F, cu, ?_, kx.1, kx.2⟩
    by_cases bf : n * (C.T e).sz = 0
    ·simp only [bf, if_true] at jm
     have uT : (Array.map (fun _ => (default : Value)) (Array.range 0)) = A := by
      have : n = 0 := by
       rcases Nat.mul_eq_zero.1 bf with h | h
       ·exact h
       ·exact (eM h).elim
      apply Array.ext'
      rw [EY, this]
      simp
     simp [Instr.buildSlice, run_underlying cn, kc f1, f2, bf, newRow]
     rw [uT, fR]
     simp
    ·simp only [bf, if_false] at jm
     have lZ : ¬ (16777216 < n * (C.T e).sz) := by omega
     simp [Instr.buildSlice, run_underlying cn, kc f1, f2, bf, lZ, sl f1 f4, qo, newRow]
     have uT : (Array.map (fun x => fE[x % fE.length]?.getD default) (Array.range (n * (C.T e).sz))) = A := by
      rw [← jm]; simp
     rw [uT, fR]
     simp
   ·cases he
  ·cases he
 ·cases he
end
inductive gI where
 | ct (x : aI)
 | iO (x : aI)
 | pick (c a b : aI)
 | ho (T : TypeId)
 | dh (T : TypeId) (x : aI)
 | fw (T : TypeId) (ps : List (Nat × aI))
 | eW (T : TypeId) (n : Nat) (ps : List (Nat × aI))
 | cl (T : TypeId) (x : aI)
 | gC (T : TypeId) (x y : aI)
 | gu (x : aI)
 | ck (op : BinOp) (T : TypeId) (x y : aI)
 | un (op : UnOp) (x : aI)
 | gH (A B : TypeId) (x : aI)
 | iy (f : FuncId) (cs : List aI)
 | eQ (T : TypeId) (l c : aI)
 | fS (T : TypeId) (x : aI) (dB au : Option aI)
 | c1 (T : TypeId) (x : aI) (k : Nat)
 | fv (T : TypeId) (x i : aI)
 | idx (T : TypeId) (x i : aI)
 | ex (x : aI) (k : Nat)
 | mm (T : TypeId) (x : aI) (k : Nat)
 | call (f : aI) (args : List aI)
 | len (T : TypeId) (x : aI)
 | app (T b0 : TypeId) (x y : aI)
 | shr (b1 : gI)
 | n1 (T b0 : TypeId) (x y : aI)
 | cap (T : TypeId) (x : aI)
 | pN (h4 : Bool) (x y : aI)
 | bad
 | mM (f : aI) (args : List aI) (u x : Nat)
 | kz (f : aI) (args : List aI) (us : List Nat)
 | jZ (T : TypeId) (x : aI)
 | rq (x : aI)
 | qp (x : aI)
def gI.base : gI → gI
 | .shr b1 => b1
 | .n1 T b0 x y => .app T b0 x y
 | .mM f args _ _ => .call f args
 | .kz f args _ => .call f args
 | .jZ T x => .dh T x
 | .rq x => .iO x
 | .qp x => .ct x
 | b1 => b1
def oQ : List Operand → Option (List aI)
 | [] => some []
 | o :: os => match ek o, oQ os with
   | some x, some xs => some (x :: xs)
   | _, _ => none
def uU : List (Nat × Operand) → Option (List (Nat × aI))
 | [] => some []
 | (k, o) :: os => match ek o, uU os with
   | some x, some xs => some ((k, x) :: xs)
   | _, _ => none
def xp : Option Operand → Option (Option aI)
 | none => some none
 | some o => (ek o).map some
def dk : Op → Option gI
 | .move x => (ek x).map .ct
 | .assign x => (ek x).map .iO
 | .pick c a b => match ek c, ek a, ek b with
   | some c, some a, some b => some (.pick c a b)
   | _, _, _ => none
 | .alloc T => some (.ho T)
 | .box T x => (ek x).map (.dh T)
 | .build T ps => (uU ps.toList).map (.fw T)
 | .buildSlice T n ps => (uU ps.toList).map (.eW T n)
 | .load T x => (ek x).map (.cl T)
 | .store T x y => match ek x, ek y with
   | some x, some y => some (.gC T x y)
   | _, _ => none
 | .nilCheck x => (ek x).map .gu
 | .binOp op T x y _ => match ek x, ek y with
   | some x, some y => some (.ck op T x y)
   | _, _ => none
 | .unOp op _ x => (ek x).map (.un op)
 | .convert A B x => (ek x).map (.gH A B)
 | .makeFunc (.func f) first cs => if first.isEmpty then (oQ cs.toList).map (.iy f) else none
 | .makeSlice T l c => match ek l, ek c with
   | some l, some c => some (.eQ T l c)
   | _, _ => none
 | .slice T x dB au none => match ek x, xp dB, xp au with
   | some x, some dB, some au => some (.fS T x dB au)
   | _, _, _ => none
 | .fieldAddr T x k => (ek x).map fun x => .c1 T x k
 | .indexAddr T x i => match ek x, ek i with
   | some x, some i => some (.fv T x i)
   | _, _ => none
 | .index T x i => match ek x, ek i with
   | some x, some i => some (.idx T x i)
   | _, _ => none
 | .extract x k => (ek x).map fun x => .ex x k
 | .field T x k => (ek x).map fun x => .mm T x k
 | .call c => match c.callee with
   | .value f => match ek f, oQ c.args.toList with
     | some f, some xs => some (.call f xs)
     | _, _ => none
   | .builtin .len => match c.args.toList, c.argTypes.toList with
     | [x], [T] => (ek x).map (.len T)
     | _, _ => none
   | .builtin .cap => match c.args.toList, c.argTypes.toList with
     | [x], [T] => (ek x).map (.cap T)
     | _, _ => none
   | .builtin .min => match c.args.toList with
     | [x, y] => match ek x, ek y with
       | some x, some y => some (.pN false x y)
       | _, _ => none
     | _ => none
   | .builtin .max => match c.args.toList with
     | [x, y] => match ek x, ek y with
       | some x, some y => some (.pN true x y)
       | _, _ => none
     | _ => none
   | .builtin .append => match c.args.toList, c.argTypes.toList with
     | [x, y], [T, b0] => match ek x, ek y with
       | some x, some y => some (.app T b0 x y)
       | _, _ => none
     | _, _ => none
   | _ => none
 | _ => none
def pN (h4 : Bool) : I → I → Option I
 | .str a, .str b => some (.str (zX h4 a b))
 | _, _ => none
def pO (s : ar) : I → Option (I × ar)
 | .h y q => db s (.h y q)
 | d => some (d, s)
def b3 (C : cE) (s : ar) : gI → Option (I × ar)
 | .ct x => some (aP s x, s)
 | .iO x => match aP s x with
   | .h y q => db s (.h y q)
   | d => some (d, s)
 | .pick c a b => match aP s c with
   | .bool gA => some (if gA then aP s a else aP s b, s)
   | _ => none
 | .ho T => (ho C T).map fun d => (d, s)
 | .dh _ x => dh s (aP s x)
 | .fw T ps => fw C s T (ps.map fun p => (p.1, aP s p.2))
 | .eW T n ps => eW C s T n (ps.map fun p => (p.1, aP s p.2))
 | .cl T x => (cl C s T (aP s x)).map fun d => (d, s)
 | .gC T x y => (gC C s T (aP s x) (aP s y)).map fun s1 => (.hole, s1)
 | .gu x => (gu s (aP s x)).map fun d => (d, s)
 | .ck op T x y => (ck C s op T (aP s x) (aP s y)).map fun d => (d, s)
 | .un op x => (un op (aP s x)).map fun d => (d, s)
 | .gH A B x => (gH C s A B (aP s x)).map fun d => (d, s)
 | .iy f cs => some (.fn f (cs.map (aP s)), s)
 | .eQ T l c => (eQ C T (aP s l) (aP s c)).map fun d => (d, s)
 | .fS T x dB au => fS C s T (aP s x) (dB.map (aP s)) (au.map (aP s))
 | .c1 T x k => (c1 C s T (aP s x) k).map fun d => (d, s)
 | .fv T x i => (fv C s T (aP s x) (aP s i)).map fun d => (d, s)
 | .idx T x i => (idx C T (aP s x) (aP s i)).map fun d => (d, s)
 | .ex x k => (ex s (aP s x) k).map fun d => (d, s)
 | .mm T x k => (mm C s T (aP s x) k).bind (pO s)
 | .call _ _ => none
 | .len T x => (mn C s T (aP s x)).map fun d => (d, s)
 | .app T b0 x y => mq C s T b0 (aP s x) (aP s y)
 | .shr _ => none
 | .mM _ _ _ _ => none
 | .kz _ _ _ => none
 | .jZ _ x => jZ s (aP s x)
 | .rq x => some (aP s x, s)
 | .qp x => pO s (aP s x)
 | .n1 T b0 x y => (n1 C T b0 (aP s x) (aP s y)).map fun d => (d, s)
 | .cap T x => match (C.T T).k, aP s x with
   | .slice _, .bp => some (.int .i64 0, s)
   | _, _ => none
 | .pN h4 x y => (pN h4 (aP s x) (aP s y)).map fun d => (d, s)
 | .bad => none
section
variable {C : cE} {w0 w : World} {F0 X F : Nat → Prop} {S : Nat → Nat → Prop} {s s1 : ar} {a : Act} {av : I}
theorem sD : ∀ {os : List Operand} {xs : List aI}, oQ os = some xs → os.map ek = xs.map some
 | [], xs, h => by simp [oQ] at h; subst h; rfl
 | o :: os, xs, h => by
   simp only [oQ] at h
   split at h
   ·rename_i x JB ae ah
    simp at h; subst h
    simp [ae, sD ah]
   ·cases h
theorem E0 {aC : Nat → Value} (h : b9 w0 F0 X F S s aC w) (fb : ∀ t, aC t = a.tmps.getD t undef) : ∀ {ps : List (Nat × Operand)} {xs : List (Nat × aI)}, uU ps = some xs →
  n2 w F s aC (xs.map fun p => (p.1, aP s p.2)) (ps.map fun p => (p.1, a.eval p.2))
 | [], xs, h => by simp [uU] at h; subst h; trivial
 | (k, o) :: ps, xs, bP => by
   simp only [uU] at bP
   split at bP
   ·rename_i x JB ae ah
    simp at bP; subst bP
    obtain ⟨bc, bA⟩ := gB h fb ae
    exact ⟨rfl, bc, bA, E0 h fb ah⟩
   ·cases bP
def Next (C : cE) (w0 : World) (F0 X : Nat → Prop) (aC : Nat → Value) (w : World) (m : Sem Go.Next) (av : I) (s1 : ar) : Prop :=
 ∃ r aO v b7 aX, m.run C.P w = .ok r aO ∧ (r = .value v ∨ r = .skip ∧ v = undef) ∧ b9 w0 F0 X b7 aX s1 aC aO ∧ lG w0 X b7 aX s1 aC aO av v
theorem Good.next {aC : Nat → Value} {m : Sem Value} (h : Good C w0 F0 X aC w m av s1) : Next C w0 F0 X aC w (do pure (.value (← m))) av s1 := by
 obtain ⟨v, aO, b7, aX, ae, ah, aH⟩ := h
 exact ⟨.value v, aO, v, b7, aX, by simp [ae], .inl rfl, ah, aH⟩
theorem JC {aC : Nat → Value} (h : b9 w0 F0 X F S s aC w) {h4 : Bool} {x y : I} {jC i6 : Value} {m : Sem Go.Next} (ae : aM w F s aC x jC (fun _ => False)) (ah : aM w F s aC y i6 (fun _ => False))
  (he : (pN h4 x y).map (fun d => (d, s)) = some (av, s1)) (hm : m = (do pure (.value (← if h4 then Builtin.max2 jC i6 else Builtin.min2 jC i6)))) : Next C w0 F0 X aC w m av s1 := by
 simp only [Option.map_eq_some_iff, Prod.mk.injEq] at he
 obtain ⟨d, aj, rfl, rfl⟩ := he
 unfold pN at aj
 split at aj
 ·rename_i a b
  simp only [Option.some.injEq] at aj; subst aj
  have aU := pG ae
  have ba := pG ah
  subst aU ba
  subst hm
  refine ⟨.value (.string ⟨⟨zX h4 a b⟩⟩), w, _, F, S, ?_, .inl rfl, h, .inl ⟨rfl, oL _⟩⟩
  cases h4
  ·simp only [Builtin.min2, Op.stringOp, w8, zX, Bool.false_eq_true, if_false]
   cases ad : (Op.bytesLess a b || a == b) <;> simp [asBool]
  ·simp only [Builtin.max2, Op.stringOp, w8, zX, if_true]
   cases ad : Op.bytesLess a b <;> simp [asBool]
 ·cases aj
theorem JD (bz : C.Ok) {aC : Nat → Value} (h : b9 w0 F0 X F S s aC w) (fb : ∀ t, aC t = a.tmps.getD t undef) {o : Oper} {b1 : gI} (af : dk o.op = some b1) (he : b3 C s b1 = some (av, s1)) :
  Next C w0 F0 X aC w (execOp a.eval o) av s1 := by
 obtain ⟨dst, op, ty, pos, after, guard⟩ := o
 simp only at af
 cases op with
 | move x =>
   simp only [dk, Option.map_eq_some_iff] at af
   obtain ⟨cA, aq, rfl⟩ := af
   obtain ⟨bc, bA⟩ := gB h fb aq
   simp only [b3, Option.some.injEq, Prod.mk.injEq] at he
   obtain ⟨rfl, rfl⟩ := he
   exact ⟨_, w, _, F, S, rfl, .inl rfl, h, .inl ⟨bc, bA⟩⟩
 | assign x =>
   simp only [dk, Option.map_eq_some_iff] at af
   obtain ⟨cA, aq, rfl⟩ := af
   obtain ⟨bc, bA⟩ := gB h fb aq
   simp only [b3] at he
   split at he
   ·rename_i y q bl
    rw [bl] at bc bA
    obtain ⟨cu, k0, ca, cy, Sn, fy, eB, gr, dH, jD, _⟩ := pD h bc bA he
    exact ⟨_, w, _, F, cu, rfl, .inl rfl, k0, .inr ⟨ca, cy, Sn, fy, eB, gr, dH, jD⟩⟩
   ·simp only [Option.some.injEq, Prod.mk.injEq] at he
    obtain ⟨rfl, rfl⟩ := he
    exact ⟨_, w, _, F, S, rfl, .inl rfl, h, .inl ⟨bc, bA⟩⟩
 | pick c x y =>
   simp only [dk] at af
   split at af
   ·rename_i xq cA kU ax aq bl
    simp only [Option.some.injEq] at af; subst af
    simp only [b3] at he
    split at he
    ·rename_i b ad
     simp only [Option.some.injEq, Prod.mk.injEq] at he
     obtain ⟨rfl, rfl⟩ := he
     have sB := (gB h fb ax).2
     rw [ad] at sB
     have sB := sr sB
     obtain ⟨ag, al⟩ := gB h fb aq
     obtain ⟨e4, fT⟩ := gB h fb bl
     refine ⟨.value (if b then a.eval x else a.eval y), w, _, F, S, ?_, .inl rfl, h, .inl ?_⟩
     ·simp [execOp, sB, asBool]
     ·cases b
      ·exact ⟨e4, fT⟩
      ·exact ⟨ag, al⟩
    ·cases he
   ·cases af
 | alloc T =>
   simp only [dk, Option.some.injEq] at af; subst af
   simp only [b3, Option.map_eq_some_iff, Prod.mk.injEq] at he
   obtain ⟨d, aj, rfl, rfl⟩ := he
   exact (QZ bz h aj).next
 | box T x =>
   simp only [dk, Option.map_eq_some_iff] at af
   obtain ⟨cA, aq, rfl⟩ := af
   obtain ⟨bc, bA⟩ := gB h fb aq
   exact (Q3 h bc bA he).next
 | build T ps =>
   simp only [dk, Option.map_eq_some_iff] at af
   obtain ⟨R0, az, rfl⟩ := af
   obtain ⟨ps⟩ := ps
   have := (RU bz h (E0 h fb az) he).next
   simpa [execOp] using this
 | buildSlice T n ps =>
   simp only [dk, Option.map_eq_some_iff] at af
   obtain ⟨R0, az, rfl⟩ := af
   obtain ⟨ps⟩ := ps
   have := (RX bz h (E0 h fb az) he).next
   simpa [execOp] using this
 | load T x =>
   simp only [dk, Option.map_eq_some_iff] at af
   obtain ⟨cA, aq, rfl⟩ := af
   obtain ⟨bc, bA⟩ := gB h fb aq
   simp only [b3, Option.map_eq_some_iff, Prod.mk.injEq] at he
   obtain ⟨d, aj, rfl, rfl⟩ := he
   exact (QU bz h bA aj).next
 | store T x y =>
   simp only [dk] at af
   split at af
   ·rename_i cA kU aq bl
    simp only [Option.some.injEq] at af; subst af
    simp only [b3, Option.map_eq_some_iff, Prod.mk.injEq] at he
    obtain ⟨s2, aj, rfl, rfl⟩ := he
    obtain ⟨aO, aX, ae, ah⟩ := QX bz h (gB h fb aq).2 (gB h fb bl).1 (gB h fb bl).2 aj
    exact ⟨.skip, aO, undef, F, aX, by simp [execOp, ae], .inr ⟨rfl, rfl⟩, ah, .inl ⟨rfl, by rw [aM]; trivial⟩⟩
   ·cases af
 | nilCheck x =>
   simp only [dk, Option.map_eq_some_iff] at af
   obtain ⟨cA, aq, rfl⟩ := af
   obtain ⟨bc, bA⟩ := gB h fb aq
   simp only [b3, Option.map_eq_some_iff, Prod.mk.injEq] at he
   obtain ⟨d, aj, rfl, rfl⟩ := he
   obtain ⟨rfl, az, aQ⟩ := Ri h bA aj
   refine ⟨.value (a.eval x), w, _, F, S, ?_, .inl rfl, h, .inl ⟨az, bA⟩⟩
   rcases aQ with ⟨b, ad⟩ | ⟨f, c, ad⟩ <;> simp [execOp, ad]
 | binOp op T x y aBk =>
   simp only [dk] at af
   split at af
   ·rename_i cA kU aq bl
    simp only [Option.some.injEq] at af; subst af
    simp only [b3, Option.map_eq_some_iff, Prod.mk.injEq] at he
    obtain ⟨d, aj, rfl, rfl⟩ := he
    exact (Rf bz h x y (gB h fb aq).2 (gB h fb bl).2 aj).next
   ·cases af
 | unOp op T x =>
   simp only [dk, Option.map_eq_some_iff] at af
   obtain ⟨cA, aq, rfl⟩ := af
   simp only [b3, Option.map_eq_some_iff, Prod.mk.injEq] at he
   obtain ⟨d, aj, rfl, rfl⟩ := he
   exact (Rg h (gB h fb aq).2 aj).next
 | convert A B x =>
   simp only [dk, Option.map_eq_some_iff] at af
   obtain ⟨cA, aq, rfl⟩ := af
   simp only [b3, Option.map_eq_some_iff, Prod.mk.injEq] at he
   obtain ⟨d, aj, rfl, rfl⟩ := he
   exact (Rr bz h (gB h fb aq).2 aj).next
 | makeFunc fn first cs =>
   cases fn with
   | func f =>
     simp only [dk] at af
     split at af
     ·rename_i E1
      simp only [Option.map_eq_some_iff] at af
      obtain ⟨n3, hh, rfl⟩ := af
      simp only [b3, Option.some.injEq, Prod.mk.injEq] at he
      obtain ⟨rfl, rfl⟩ := he
      have E2 : first = #[] := by simpa using E1
      subst E2
      refine ⟨_, w, _, F, S, rfl, .inl rfl, h, .inl ⟨rfl, ?_⟩⟩
      rw [aM]
      refine ⟨cs.map a.eval, by simp, ?_⟩
      simpa using Av h fb _ _ (sD hh)
     ·cases af
   | _ => simp [dk] at af
 | makeSlice T l c =>
   simp only [dk] at af
   split at af
   ·rename_i cA kU aq bl
    simp only [Option.some.injEq] at af; subst af
    simp only [b3, Option.map_eq_some_iff, Prod.mk.injEq] at he
    obtain ⟨d, aj, rfl, rfl⟩ := he
    exact (RL bz h (gB h fb aq).2 (gB h fb bl).2 aj).next
   ·cases af
 | slice T x dB au h4 =>
   cases h4 with
   | some m => simp [dk] at af
   | none =>
     simp only [dk] at af
     split at af
     ·rename_i cA aBl sE aq nW nX
      simp only [Option.some.injEq] at af; subst af
      obtain ⟨bc, bA⟩ := gB h fb aq
      have opt : ∀ {o : Option Operand} {mN : Option aI}, xp o = some mN → ql w F s aC (mN.map (aP s)) (o.map a.eval) := by
       intro o mN b_
       cases o with
       | none => simp [xp] at b_; subst b_; trivial
       | some o =>
         simp only [xp, Option.map_eq_some_iff] at b_
         obtain ⟨x, aq, rfl⟩ := b_
         exact (gB h fb aq).2
      exact (Ru bz h bc bA (opt nW) (opt nX) he).next
     ·cases af
 | fieldAddr T x k =>
   simp only [dk, Option.map_eq_some_iff] at af
   obtain ⟨cA, aq, rfl⟩ := af
   obtain ⟨bc, bA⟩ := gB h fb aq
   simp only [b3, Option.map_eq_some_iff, Prod.mk.injEq] at he
   obtain ⟨d, aj, rfl, rfl⟩ := he
   exact (QO bz h bc bA aj).next
 | indexAddr T x i =>
   simp only [dk] at af
   split at af
   ·rename_i cA kU aq bl
    simp only [Option.some.injEq] at af; subst af
    simp only [b3, Option.map_eq_some_iff, Prod.mk.injEq] at he
    obtain ⟨d, aj, rfl, rfl⟩ := he
    exact (QP bz h (gB h fb aq).2 (gB h fb bl).2 aj).next
   ·cases af
 | index T x i =>
   simp only [dk] at af
   split at af
   ·rename_i cA kU aq bl
    simp only [Option.some.injEq] at af; subst af
    simp only [b3, Option.map_eq_some_iff, Prod.mk.injEq] at he
    obtain ⟨d, aj, rfl, rfl⟩ := he
    exact (Ro bz h (gB h fb aq).2 (gB h fb bl).2 aj).next
   ·cases af
 | extract x k =>
   simp only [dk, Option.map_eq_some_iff] at af
   obtain ⟨cA, aq, rfl⟩ := af
   simp only [b3, Option.map_eq_some_iff, Prod.mk.injEq] at he
   obtain ⟨d, aj, rfl, rfl⟩ := he
   exact (Rl h (gB h fb aq).2 aj).next
 | field T x k =>
   simp only [dk, Option.map_eq_some_iff] at af
   obtain ⟨cA, aq, rfl⟩ := af
   simp only [b3, Option.bind_eq_some_iff] at he
   obtain ⟨d, aj, he⟩ := he
   obtain ⟨v, aO, b7, aX, aZ, ni, oD⟩ := Rm bz h (gB h fb aq).2 aj
   unfold pO at he
   split at he
   ·rename_i y q
    have R1 : aM aO b7 s aC (.h y q) v (fun _ => False) := by
     rcases oD with ⟨_, bA⟩ | ⟨bc, _⟩
     ·exact bA
     ·cases bc
    obtain ⟨cu, k0, ca, cy, Sn, fy, eB, gr, dH, jD, _⟩ := pD ni rfl R1 he
    exact ⟨.value v, aO, v, b7, cu, by simp [execOp, aZ], .inl rfl, k0, .inr ⟨ca, cy, Sn, fy, eB, gr, dH, jD⟩⟩
   ·simp only [Option.some.injEq, Prod.mk.injEq] at he
    obtain ⟨rfl, rfl⟩ := he
    exact ⟨.value v, aO, v, b7, aX, by simp [execOp, aZ], .inl rfl, ni, oD⟩
 | call c =>
   obtain ⟨callee, args, argTypes⟩ := c
   simp only [dk] at af
   split at af
   ·split at af
    ·simp only [Option.some.injEq] at af; subst af
     simp [b3] at he
    ·cases af
   ·split at af
    ·rename_i x T mO sF
     simp only [Option.map_eq_some_iff] at af
     obtain ⟨cA, aq, rfl⟩ := af
     simp only [b3, Option.map_eq_some_iff, Prod.mk.injEq] at he
     obtain ⟨d, aj, rfl, rfl⟩ := he
     have := (Rp (ty := ty) bz h (gB h fb aq).2 aj).next
     have aU : args = #[x] := by apply Array.ext'; exact mO
     have ba : argTypes = #[T] := by apply Array.ext'; exact sF
     subst aU ba
     simpa [execOp, resolve, invoke, builtin] using this
    ·cases af
   ·split at af
    ·rename_i x T mO sF
     simp only [Option.map_eq_some_iff] at af
     obtain ⟨cA, aq, rfl⟩ := af
     simp only [b3] at he
     split at he
     ·rename_i e aA R2
      simp only [Option.some.injEq, Prod.mk.injEq] at he
      obtain ⟨rfl, rfl⟩ := he
      have aQ := (gB h fb aq).2
      rw [R2] at aQ
      have := qk aQ
      obtain ⟨i, d, z, aU, ba, aW, cS, cZ, cn, bV⟩ := bz.info (gV aA (by simp))
      rw [aA] at bV
      have aj := lH bV; subst aj
      have R3 : args = #[x] := by apply Array.ext'; exact mO
      have R4 : argTypes = #[T] := by apply Array.ext'; exact sF
      subst R3 R4
      have aZ : (Builtin.cap_ #[T] ty #[a.eval x]).run C.P w = .ok (.int .i64 0) w := by
       rw [this]; simp [Builtin.cap_, run_underlying cn, goInt]
      have := (Good.same (av := .int .i64 0) h aZ rfl (of_int _ _)).next
      simpa [execOp, resolve, invoke, builtin] using this
     ·cases he
    ·cases af
   ·split at af
    ·rename_i x y mO
     split at af
     ·rename_i cA kU aq bl
      simp only [Option.some.injEq] at af; subst af
      have aU : args = #[x, y] := by apply Array.ext'; exact mO
      subst aU
      exact JC h (gB h fb aq).2 (gB h fb bl).2 he (by simp [execOp, resolve, invoke, builtin, Builtin.min_])
     ·cases af
    ·cases af
   ·split at af
    ·rename_i x y mO
     split at af
     ·rename_i cA kU aq bl
      simp only [Option.some.injEq] at af; subst af
      have aU : args = #[x, y] := by apply Array.ext'; exact mO
      subst aU
      exact JC h (gB h fb aq).2 (gB h fb bl).2 he (by simp [execOp, resolve, invoke, builtin, Builtin.max_])
     ·cases af
    ·cases af
   ·split at af
    ·rename_i x y T b0 mO sF
     split at af
     ·rename_i cA kU aq bl
      simp only [Option.some.injEq] at af; subst af
      have := (RE (ty := ty) bz h (gB h fb aq).2 (gB h fb bl).2 he).next
      have aU : args = #[x, y] := by apply Array.ext'; exact mO
      have ba : argTypes = #[T, b0] := by apply Array.ext'; exact sF
      subst aU ba
      simpa [execOp, resolve, invoke, builtin] using this
     ·cases af
    ·cases af
   ·cases af
 | _ => simp [dk] at af
end
mutual
def I.af : I → List Nat
 | .h x _ => [x]
 | .az x _ => [x]
 | .ad x _ => [x]
 | .fn _ cap => I.e5 cap
 | _ => []
def I.e5 : List I → List Nat
 | [] => []
 | d :: ds => d.af ++ I.e5 ds
end
inductive pP where
 | no
 | cx
 | c8
structure hy where
 k : pP
 x : Nat
 d : I
def pP.app (k : pP) (x : Nat) (a : I) : I := match k with
 | .no => a
 | .cx => dg.cx x a
 | .c8 => dg.c8 x a
def hy.at (m : hy) (u : Nat) (a : I) : I := if u = m.x then m.d else m.k.app m.x a
def kd : List hy → Nat → I → I
 | [], _, a => a
 | m :: ms, u, a => kd ms u (m.at u a)
def dU (ms : List hy) (s : ar) : ar := fun u => kd ms u (s u)
theorem JE : ∀ (ms ll : List hy) (u : Nat) (a : I), kd (ms ++ ll) u a = kd ll u (kd ms u a)
 | [], _, _, _ => rfl
 | m :: ms, ll, u, a => by simp only [List.cons_append, kd]; exact JE ms ll u _
theorem l5 (ms ll : List hy) (s : ar) : dU (ms ++ ll) s = dU ll (dU ms s) := by
 funext u; simp [dU, JE]
theorem R5 {ms : List hy} {s aB : ar} {u : Nat} (h : aB u = s u) : dU ms aB u = dU ms s u := by simp [dU, h]
theorem xr (s : ar) (x : Nat) (d : I) : dM (ji x s) x d = dU [⟨.cx, x, d⟩] s := by
 funext u; simp only [dU, kd, hy.at, dM, ji, pP.app]
theorem JF (s : ar) (x : Nat) (d : I) : dM (lY x s) x d = dU [⟨.c8, x, d⟩] s := by
 funext u; simp only [dU, kd, hy.at, dM, lY, pP.app]
theorem E3 (s : ar) (x : Nat) (d : I) : dM s x d = dU [⟨.no, x, d⟩] s := by
 funext u; simp only [dU, kd, hy.at, dM, pP.app]
mutual
theorem xt {x : Nat} : ∀ a : I, x ∉ a.af → cx x a = a
 | .h y q, h => by
   simp only [I.af, List.mem_singleton] at h
   simp only [cx]; rw [if_neg (fun e => h e.symm)]
 | .az y q, h => by
   simp only [I.af, List.mem_singleton] at h
   simp only [cx]; rw [if_neg (fun e => h e.symm)]
 | .ad y q, h => rfl
 | .fn f cap, h => by simp only [cx]; rw [JG cap (by simpa [I.af] using h)]
 | .hole, _ => rfl
 | .bool _, _ => rfl
 | .fu, _ => rfl
 | .int _ _, _ => rfl
 | .str _, _ => rfl
 | .dI, _ => rfl
 | .bp, _ => rfl
 | .slice _, _ => rfl
 | .ao _ _, _ => rfl
 | .ref _, _ => rfl
 | .bb _, _ => rfl
 | .agg _, _ => rfl
 | .tuple _, _ => rfl
 | .fg _, _ => rfl
theorem JG {x : Nat} : ∀ ds : List I, x ∉ I.e5 ds → i4 x ds = ds
 | [], _ => rfl
 | d :: ds, h => by
   simp only [I.e5, List.mem_append, not_or] at h
   simp only [i4]; rw [xt d h.1, JG ds h.2]
end
mutual
theorem E4 {x : Nat} : ∀ a : I, x ∉ a.af → c8 x a = a
 | .h y q, h => by
   simp only [I.af, List.mem_singleton] at h
   simp only [c8]; rw [if_neg (fun e => h e.symm)]
 | .az y q, h => by
   simp only [I.af, List.mem_singleton] at h
   simp only [c8]; rw [if_neg (fun e => h e.symm)]
 | .ad y q, h => by
   simp only [I.af, List.mem_singleton] at h
   simp only [c8]; rw [if_neg (fun e => h e.symm)]
 | .fn f cap, h => by simp only [c8]; rw [JH cap (by simpa [I.af] using h)]
 | .hole, _ => rfl
 | .bool _, _ => rfl
 | .fu, _ => rfl
 | .int _ _, _ => rfl
 | .str _, _ => rfl
 | .dI, _ => rfl
 | .bp, _ => rfl
 | .slice _, _ => rfl
 | .ao _ _, _ => rfl
 | .ref _, _ => rfl
 | .bb _, _ => rfl
 | .agg _, _ => rfl
 | .tuple _, _ => rfl
 | .fg _, _ => rfl
theorem JH {x : Nat} : ∀ ds : List I, x ∉ I.e5 ds → jA x ds = ds
 | [], _ => rfl
 | d :: ds, h => by
   simp only [I.e5, List.mem_append, not_or] at h
   simp only [jA]; rw [E4 d h.1, JH ds h.2]
end
theorem xu {k : pP} {x : Nat} {a : I} (h : k = .no ∨ x ∉ a.af) : k.app x a = a := by
 cases k with
 | no => rfl
 | cx => exact xt a (by simpa using h)
 | c8 => exact E4 a (by simpa using h)
mutual
theorem JI (x y : Nat) : ∀ a : I, cx x (cx y a) = cx y (cx x a)
 | .h z q => by simp only [cx]; by_cases ae : z = x <;> by_cases ah : z = y <;> by_cases aH : q = [] <;> simp [ae, ah, aH, cx] <;> (subst_vars; simp_all [cx])
 | .az z q => by simp only [cx]; by_cases ae : z = x <;> by_cases ah : z = y <;> simp [ae, ah, cx] <;> (subst_vars; simp_all [cx])
 | .ad z q => rfl
 | .fn f cap => by simp only [cx]; rw [JJ x y cap]
 | .hole => rfl
 | .bool _ => rfl
 | .fu => rfl
 | .int _ _ => rfl
 | .str _ => rfl
 | .dI => rfl
 | .bp => rfl
 | .slice _ => rfl
 | .ao _ _ => rfl
 | .ref _ => rfl
 | .bb _ => rfl
 | .agg _ => rfl
 | .tuple _ => rfl
 | .fg _ => rfl
theorem JJ (x y : Nat) : ∀ ds : List I, i4 x (i4 y ds) = i4 y (i4 x ds)
 | [] => rfl
 | d :: ds => by simp only [i4]; rw [JI x y d, JJ x y ds]
end
mutual
theorem JK (x y : Nat) : ∀ a : I, c8 x (c8 y a) = c8 y (c8 x a)
 | .h z q => by simp only [c8]; by_cases ae : z = x <;> by_cases ah : z = y <;> simp [ae, ah, c8] <;> (subst_vars; simp_all [c8])
 | .az z q => by simp only [c8]; by_cases ae : z = x <;> by_cases ah : z = y <;> simp [ae, ah, c8] <;> (subst_vars; simp_all [c8])
 | .ad z q => by simp only [c8]; by_cases ae : z = x <;> by_cases ah : z = y <;> simp [ae, ah, c8] <;> (subst_vars; simp_all [c8])
 | .fn f cap => by simp only [c8]; rw [JL x y cap]
 | .hole => rfl
 | .bool _ => rfl
 | .fu => rfl
 | .int _ _ => rfl
 | .str _ => rfl
 | .dI => rfl
 | .bp => rfl
 | .slice _ => rfl
 | .ao _ _ => rfl
 | .ref _ => rfl
 | .bb _ => rfl
 | .agg _ => rfl
 | .tuple _ => rfl
 | .fg _ => rfl
theorem JL (x y : Nat) : ∀ ds : List I, jA x (jA y ds) = jA y (jA x ds)
 | [] => rfl
 | d :: ds => by simp only [jA]; rw [JK x y d, JL x y ds]
end
mutual
theorem E5 (x y : Nat) : ∀ a : I, cx x (c8 y a) = c8 y (cx x a)
 | .h z q => by simp only [c8, cx]; by_cases ae : z = x <;> by_cases ah : z = y <;> by_cases aH : q = [] <;> simp [ae, ah, aH, c8, cx] <;> (subst_vars; simp_all [c8, cx])
 | .az z q => by simp only [c8, cx]; by_cases ae : z = x <;> by_cases ah : z = y <;> simp [ae, ah, c8, cx] <;> (subst_vars; simp_all [c8, cx])
 | .ad z q => by simp only [c8, cx]; by_cases ah : z = y <;> simp [ah, cx]
 | .fn f cap => by simp only [c8, cx]; rw [JM x y cap]
 | .hole => rfl
 | .bool _ => rfl
 | .fu => rfl
 | .int _ _ => rfl
 | .str _ => rfl
 | .dI => rfl
 | .bp => rfl
 | .slice _ => rfl
 | .ao _ _ => rfl
 | .ref _ => rfl
 | .bb _ => rfl
 | .agg _ => rfl
 | .tuple _ => rfl
 | .fg _ => rfl
theorem JM (x y : Nat) : ∀ ds : List I, i4 x (jA y ds) = jA y (i4 x ds)
 | [] => rfl
 | d :: ds => by simp only [jA, i4]; rw [E5 x y d, JM x y ds]
end
theorem R6 (k l : pP) (x y : Nat) (a : I) : k.app x (l.app y a) = l.app y (k.app x a) := by
 cases k <;> cases l <;> simp only [pP.app] <;> first | rfl | exact JI .. | exact JK .. | exact E5 .. | exact (E5 ..).symm
def aI.use (s : ar) : aI → List Nat
 | .t n => n :: (s n).af
 | .c av => av.af
 | .f _ => []
def aI.n4 (s : ar) : List aI → List Nat
 | [] => []
 | x :: xs => x.use s ++ aI.n4 s xs
def E6 (s : ar) : Option aI → List Nat
 | none => []
 | some x => x.use s
def use (s : ar) : gI → List Nat
 | .ct x => x.use s
 | .iO x => x.use s
 | .pick c a b => c.use s ++ (a.use s ++ b.use s)
 | .ho _ => []
 | .dh _ x => x.use s
 | .fw _ ps => aI.n4 s (ps.map (·.2))
 | .eW _ _ ps => aI.n4 s (ps.map (·.2))
 | .cl _ x => x.use s
 | .gC _ x y => x.use s ++ y.use s
 | .gu x => x.use s
 | .ck _ _ x y => x.use s ++ y.use s
 | .un _ x => x.use s
 | .gH _ _ x => x.use s
 | .iy _ cs => aI.n4 s cs
 | .eQ _ l c => l.use s ++ c.use s
 | .fS _ x dB au => x.use s ++ (E6 s dB ++ E6 s au)
 | .c1 _ x _ => x.use s
 | .fv _ x i => x.use s ++ i.use s
 | .idx _ x i => x.use s ++ i.use s
 | .ex x _ => x.use s
 | .mm _ x _ => x.use s
 | .call f args => f.use s ++ aI.n4 s args
 | .len _ x => x.use s
 | .app _ _ x y => x.use s ++ y.use s
 | .shr b1 => use s b1
 | .mM f args u x => u :: x :: (f.use s ++ aI.n4 s args)
 | .kz f args us => us.flatMap (fun u => u :: (s u).af) ++ (f.use s ++ aI.n4 s args)
 | .jZ _ x => x.use s
 | .rq x => x.use s
 | .qp x => x.use s
 | .n1 _ _ x y => x.use s ++ y.use s
 | .cap _ x => x.use s
 | .pN _ x y => x.use s ++ y.use s
 | .bad => []
def dR (s : ar) : gI → List Nat
 | .iO x => (aP s x).af
 | .dh _ x => (aP s x).af
 | .fw _ ps => I.e5 (ps.map fun p => aP s p.2)
 | .eW _ _ ps => I.e5 (ps.map fun p => aP s p.2)
 | .gC _ x y => (aP s x).af ++ (aP s y).af
 | .mm _ x _ => (aP s x).af
 | .qp x => (aP s x).af
 | .fS _ x _ _ => (aP s x).af
 | .app _ _ x y => (aP s x).af ++ (aP s y).af
 | .shr b1 => dR s b1
 | _ => []
def el (b0 : List Nat) (aB s : ar) : Prop := ∀ u ∈ b0, aB u = s u
theorem el.left {b0 V : List Nat} {aB s : ar} (h : el (b0 ++ V) aB s) : el b0 aB s := fun u hu => h u (List.mem_append_left _ hu)
theorem el.right {b0 V : List Nat} {aB s : ar} (h : el (b0 ++ V) aB s) : el V aB s := fun u hu => h u (List.mem_append_right _ hu)
theorem el.dU {b0 : List Nat} {aB s : ar} (h : el b0 aB s) (ms : List hy) : el b0 (dU ms aB) (dU ms s) := fun u hu => R5 (h u hu)
theorem el.sub {b0 V : List Nat} {aB s : ar} (h : el b0 aB s) (af : ∀ u ∈ V, u ∈ b0) : el V aB s := fun u hu => h u (af u hu)
theorem aI.sG {s : ar} {x : aI} : ∀ u ∈ (aP s x).af, u ∈ x.use s := by
 intro u hu
 cases x with
 | t n =>
   simp only [aP, jj] at hu
   split at hu
   ·simp [aI.use, hu]
   ·simp only [I.af, List.mem_singleton] at hu; simp [aI.use, hu]
 | c av => exact hu
 | f g => simp [aP, I.af, I.e5] at hu
theorem aI.gJ {s aB : ar} {x : aI} (h : el (x.use s) aB s) : aP aB x = aP s x := by
 cases x with
 | t n => simp only [aP]; rw [h n (by simp [aI.use])]
 | c av => rfl
 | f g => rfl
theorem el.aP {s aB : ar} {x : aI} (h : el (x.use s) aB s) : el (aP s x).af aB s := h.sub aI.sG
theorem JN {s aB : ar} {x : Option aI} (h : el (E6 s x) aB s) : x.map (aP aB) = x.map (aP s) := by
 cases x with
 | none => rfl
 | some x => simp only [Option.map_some]; rw [aI.gJ h]
theorem aI.E7 {s aB : ar} : ∀ {xs : List aI}, el (aI.n4 s xs) aB s → xs.map (aP aB) = xs.map (aP s)
 | [], _ => rfl
 | x :: xs, h => by
   simp only [List.map_cons]
   rw [aI.gJ (h.left), aI.E7 (h.right)]
theorem aI.E8 {s aB : ar} : ∀ {ps : List (Nat × aI)}, el (aI.n4 s (ps.map (·.2))) aB s → (ps.map fun p => (p.1, aP aB p.2)) = ps.map fun p => (p.1, aP s p.2)
 | [], _ => rfl
 | x :: xs, h => by
   simp only [List.map_cons] at h ⊢
   rw [aI.gJ (h.left), aI.E8 (h.right)]
theorem aI.Ax {s : ar} : ∀ {xs : List aI}, ∀ u ∈ I.e5 (xs.map (aP s)), u ∈ aI.n4 s xs
 | [], u, h => by simp [I.e5] at h
 | x :: xs, u, h => by
   simp only [List.map_cons, I.e5, List.mem_append] at h
   simp only [aI.n4, List.mem_append]
   exact h.imp (aI.sG u) (aI.Ax u)
section
variable {C : cE} {s aB : ar} {x y i : I} {T A B : TypeId}
theorem E9 (h : el x.af aB s) : loc aB x = loc s x := by
 cases x <;> first
  | rfl
  | (simp only [loc]; rw [h _ (by simp [I.af])])
theorem E_ {z : Nat} {q : List Nat} (h : loc s x = some (z, q)) : z ∈ x.af := by
 cases x with
 | h y p =>
   simp only [loc] at h
   split at h
   ·simp only [Option.some.injEq, Prod.mk.injEq] at h; simp [I.af, h.1]
   ·cases h
 | az y p =>
   simp only [loc] at h
   split at h
   ·simp only [Option.some.injEq, Prod.mk.injEq] at h; simp [I.af, h.1]
   ·cases h
 | _ => simp [loc] at h
theorem R7 (h : el x.af aB s) : cl C aB T x = cl C s T x := by
 have hl := E9 h
 unfold cl
 split
 ·rfl
 ·rw [h _ (by simp [I.af])]
 ·rw [hl]
  split
  ·rename_i e
   rw [h _ (E_ e)]
  ·rfl
theorem R8 {k : Nat} (h : el x.af aB s) : c1 C aB T x k = c1 C s T x k := by
 have hl := E9 h
 unfold c1
 split
 ·split
  ·split
   ·split
    ·rfl
    ·rw [h _ (by simp [I.af])]
    ·rw [hl]
     split
     ·rename_i e
      rw [h _ (E_ e)]
     ·rfl
   ·rfl
  ·rfl
 ·rfl
theorem R9 (h : el x.af aB s) : fv C aB T x i = fv C s T x i := by
 cases x <;> first
  | rfl
  | (simp only [fv]; rw [h _ (by simp [I.af])])
theorem R_ (h : el x.af aB s) : mn C aB T x = mn C s T x := by
 unfold mn
 cases (C.T T).k <;> cases x <;> first
  | rfl
  | (simp only; rw [h _ (by simp [I.af])])
theorem Sa (h : el x.af aB s) : gH C aB A B x = gH C s A B x := by
 unfold gH
 cases (C.T B).k <;> cases x <;> first
  | rfl
  | (simp only; rw [h _ (by simp [I.af])])
theorem Sb (h : el x.af aB s) : j0 aB x = j0 s x := by
 cases x <;> first
  | rfl
  | (simp only [j0]; rw [h _ (by simp [I.af])])
theorem Sc (h : el x.af aB s) : lI aB x = lI s x := by
 cases x <;> first
  | rfl
  | (simp only [lI]; rw [h _ (by simp [I.af])])
theorem Sd {op : BinOp} (h : el x.af aB s) : ck C aB op T x y = ck C s op T x y := by
 have ae := Sb h
 have ah := Sc h
 unfold ck
 split <;> first | rfl | simp only [ae, ah]
theorem Se (h : el x.af aB s) : gu aB x = gu s x := by
 cases x <;> first
  | rfl
  | (simp only [gu]; rw [h _ (by simp [I.af])])
theorem Sf {k y : Nat} {q : List Nat} (h : mm C s T x k = some (.h y q)) : x.af = [y] := by
 unfold mm at h
 split at h <;> try (cases h; done)
 split at h <;> try (cases h; done)
 split at h
 ·split at h <;> try (cases h; done)
  split at h
  ·rename_i ax
   simp only [Option.some.injEq] at h
   rw [h] at ax
   exact absurd ax.2.2.2 (by simp [I.tree])
  ·cases h
 ·split at h <;> try (cases h; done)
  split at h <;> try (cases h; done)
  split at h <;> try (cases h; done)
  rename_i d aj ax
  by_cases az : d.plain = true
  ·simp only [az, if_true, Option.some.injEq] at h
   rw [h] at ax
   exact absurd ax.2.2.2 (by simp [I.tree])
  ·simp only [az, Option.some.injEq] at h
   injection h with ae ah
   subst ae; rfl
 ·cases h
theorem JO {k : Nat} (h : el x.af aB s) : mm C aB T x k = mm C s T x k := by
 unfold mm
 split <;> try rfl
 split <;> try rfl
 cases x <;> first
  | rfl
  | (simp only []; rw [h _ (by simp [I.af])])
theorem Sg {k : Nat} (h : el x.af aB s) : ex aB x k = ex s x k := by
 cases x <;> first
  | rfl
  | (simp only [ex]; rw [h _ (by simp [I.af])])
theorem xv : ∀ (q : List Nat) (a d e : I), I.sub q a = some d → (d.plain = false ∨ q ≠ []) → (q = [] → e.af = []) → (I.put q e a).af = [] := by
 intro q a d e h az he
 cases q with
 | nil => rw [I.put]; exact he rfl
 | cons k q =>
   cases a <;> first
    | (simp [I.sub] at h; done)
    | skip
   all_goals
    unfold I.put
    repeat' split
    all_goals first | rfl | (simp_all; done)
end
def Loc {α : Type} (b0 uV : List Nat) (f : ar → Option (α × ar)) (s : ar) (av : α) (s1 : ar) : Prop :=
 ∃ ms, s1 = dU ms s ∧ (∀ m ∈ ms, m.x ∈ uV ∧ m.d.af = []) ∧ ∀ aB, el b0 aB s → f aB = some (av, dU ms aB)
theorem Loc.pure {α : Type} {b0 uV : List Nat} {f : ar → Option (α × ar)} {s : ar} {av : α} (h : ∀ aB, el b0 aB s → f aB = some (av, aB)) : Loc b0 uV f s av s :=
 ⟨[], rfl, by simp, fun aB af => h aB af⟩
theorem Loc.mono {α : Type} {b0 uV Ay JP : List Nat} {f : ar → Option (α × ar)} {s s1 : ar} {av : α} (h : Loc b0 uV f s av s1) (pL : ∀ u ∈ b0, u ∈ Ay) (ld : ∀ u ∈ uV, u ∈ JP) : Loc Ay JP f s av s1 := by
 obtain ⟨ms, ae, ah, aH⟩ := h
 exact ⟨ms, ae, fun m hm => ⟨ld _ (ah m hm).1, (ah m hm).2⟩, fun aB af => aH aB (af.sub pL)⟩
section
variable {C : cE} {s s1 : ar} {x y d : I} {T A B : TypeId}
theorem qq (h : db s x = some (d, s1)) : Loc x.af x.af (fun s => db s x) s d s1 := by
 cases x with
 | h y q =>
   simp only [db] at h
   split at h
   ·rename_i e he
    split at h
    ·cases h
    ·rename_i az
     simp only [Option.some.injEq, Prod.mk.injEq] at h
     obtain ⟨rfl, rfl⟩ := h
     have az : e.plain = false := by simpa using az
     refine ⟨[⟨.cx, y, I.put q e.du (s y)⟩], xr _ _ _, ?_, ?_⟩
     ·intro m hm
      simp only [List.mem_singleton] at hm; subst hm
      refine ⟨by simp [I.af], xv q _ _ _ he (.inl az) fun c4 => ?_⟩
      subst c4
      cases e <;> first | (simp [I.plain] at az; done) | rfl
     ·intro aB af
      have aU : aB y = s y := af y (by simp [I.af])
      simp only [db, aU, he, az]
      rw [← xr]; rfl
   ·cases h
 | az y q => simp [db] at h
 | ad y q => simp [db] at h
 | fn f c => simp [db] at h
 | hole => simp [db] at h
 | _ =>
   simp only [db, Option.some.injEq, Prod.mk.injEq] at h
   obtain ⟨rfl, rfl⟩ := h
   exact .pure fun aB _ => rfl
mutual
theorem JQ (x : Nat) : ∀ a : I, ∀ u ∈ (cx x a).af, u ∈ a.af
 | .h y q, u, h => by
   simp only [cx] at h
   split at h
   ·split at h
    ·exact h
    ·simp [I.af] at h
   ·exact h
 | .az y q, u, h => by
   simp only [cx] at h
   split at h
   ·simp [I.af] at h
   ·exact h
 | .ad y q, u, h => h
 | .fn f cap, u, h => by simp only [cx, I.af] at h ⊢; exact JR x cap u h
 | .hole, u, h => h
 | .bool _, u, h => h
 | .fu, u, h => h
 | .int _ _, u, h => h
 | .str _, u, h => h
 | .dI, u, h => h
 | .bp, u, h => h
 | .slice _, u, h => h
 | .ao _ _, u, h => h
 | .ref _, u, h => h
 | .bb _, u, h => h
 | .agg _, u, h => h
 | .tuple _, u, h => h
theorem JR (x : Nat) : ∀ ds : List I, ∀ u ∈ I.e5 (i4 x ds), u ∈ I.e5 ds
 | [], u, h => h
 | d :: ds, u, h => by
   simp only [i4, I.e5, List.mem_append] at h ⊢
   exact h.imp (JQ x d u) (JR x ds u)
end
theorem Fa (o : Option Nat) (a : I) : ∀ u ∈ (kV o a).af, u ∈ a.af := by
 intro u h
 cases o with
 | none => exact h
 | some x => exact JQ x a u h
theorem JS : ∀ (os : List (Option Nat)) (a : I), ∀ u ∈ (lj os a).af, u ∈ a.af := by
 intro os
 induction os with
 | nil => intro a u h; exact h
 | cons o os ih => intro a u h; exact Fa o a u (ih (kV o a) u h)
theorem JT {place : Nat → Option (Nat × Nat)} : ∀ {ps : List (Nat × I)} {s s1 : ar} {zs ds : List I} {os : List (Option Nat)}, eR place s zs os ps = some (ds, s1) →
  Loc (I.e5 (ps.map (·.2))) (I.e5 (ps.map (·.2))) (fun s => eR place s zs os ps) s ds s1 := by
 intro ps
 induction ps with
 | nil =>
   intro s s1 zs ds os h
   simp only [eR, Option.some.injEq, Prod.mk.injEq] at h
   obtain ⟨rfl, rfl⟩ := h
   exact .pure fun aB _ => rfl
 | cons p ps ih =>
   intro s s1 zs ds os h
   obtain ⟨k, a⟩ := p
   simp only [eR] at h
   split at h
   ·rename_i d s2 off n z bo gG b8
    split at h
    ·cases h
    ·rename_i bQ mP
     split at h
     ·rename_i ax
      obtain ⟨oR, rfl, ah, aH⟩ := qq bo
      obtain ⟨sH, rfl, bN, cW⟩ := ih h
      refine ⟨oR ++ sH, (l5 _ _ _).symm, ?_, ?_⟩
      ·intro m hm
       simp only [List.map_cons, I.e5, List.mem_append] at hm ⊢
       rcases hm with hm | hm
       ·exact ⟨.inl (JS _ _ _ (ah m hm).1), (ah m hm).2⟩
       ·exact ⟨.inr (bN m hm).1, (bN m hm).2⟩
      ·intro aB af
       simp only [List.map_cons, I.e5] at af
       have aU := aH aB (af.left.sub (JS _ _))
       have ba := cW (dU oR aB) (af.right.dU oR)
       simp only at aU ba
       simp only [eR, aU, gG, b8, l5]
       rw [if_pos ax]; exact ba
     ·cases h
   ·cases h
theorem Sh {ps : List (Nat × I)} {av : I} (h : fw C s T ps = some (av, s1)) : Loc (I.e5 (ps.map (·.2))) (I.e5 (ps.map (·.2))) (fun s => fw C s T ps) s av s1 := by
 unfold fw at h
 split at h
 ·rename_i ay zs aA b8
  split at h
  ·rename_i ax
   split at h
   ·rename_i ds s2 bF
    simp only [Option.some.injEq, Prod.mk.injEq] at h
    obtain ⟨rfl, rfl⟩ := h
    obtain ⟨ms, ae, ah, aH⟩ := JT bF
    refine ⟨ms, ae, ah, fun aB af => ?_⟩
    have := aH aB af
    simp only at this
    simp only [fw, aA, b8, if_pos ax, this]
   ·cases h
  ·cases h
 ·cases h
theorem Si {n : Nat} {ps : List (Nat × I)} {av : I} (h : eW C s T n ps = some (av, s1)) : Loc (I.e5 (ps.map (·.2))) (I.e5 (ps.map (·.2))) (fun s => eW C s T n ps) s av s1 := by
 unfold eW at h
 split at h
 ·rename_i e aA
  split at h
  ·rename_i ax
   split at h
   ·rename_i ds s2 bF
    simp only [Option.some.injEq, Prod.mk.injEq] at h
    obtain ⟨rfl, rfl⟩ := h
    obtain ⟨ms, ae, ah, aH⟩ := JT bF
    refine ⟨ms, ae, ah, fun aB af => ?_⟩
    have := aH aB af
    simp only at this
    simp only [eW, aA, if_pos ax, this]
   ·cases h
  ·cases h
 ·cases h
theorem Sj {av : I} (h : dh s x = some (av, s1)) : Loc x.af x.af (fun s => dh s x) s av s1 := by
 unfold dh at h
 split at h
 ·cases h
 ·rename_i d s2 mP bo
  simp only [Option.some.injEq, Prod.mk.injEq] at h
  obtain ⟨rfl, rfl⟩ := h
  obtain ⟨ms, ae, ah, aH⟩ := qq bo
  refine ⟨ms, ae, ah, fun aB af => ?_⟩
  have := aH aB af
  simp only at this
  simp only [dh, this]
 ·cases h
theorem Sk {av : I} (h : jZ s x = some (av, s1)) : Loc x.af [] (fun s => jZ s x) s av s1 := by
 unfold jZ at h
 split at h
 ·rename_i y q
  split at h
  ·rename_i ds nj
   split at h
   ·cases h
   ·rename_i w6
    simp only [Option.some.injEq, Prod.mk.injEq] at h
    obtain ⟨rfl, rfl⟩ := h
    refine .pure fun aB af => ?_
    have e : aB y = s y := af y (by simp [I.af])
    simp only [jZ, e, nj, if_neg w6]
  ·cases h
 ·split at h
  ·rename_i ax
   simp only [Option.some.injEq, Prod.mk.injEq] at h
   obtain ⟨rfl, rfl⟩ := h
   exact .pure fun aB af => by simp only [jZ, ax, if_true]
  ·cases h
 ·cases h
theorem Sl {s2 : ar} (h : gC C s T x y = some s2) : Loc (x.af ++ y.af) (x.af ++ y.af) (fun s => (gC C s T x y).map fun s1 => (I.hole, s1)) s .hole s2 := by
 unfold gC at h
 split at h
 ·rename_i d s1 z q bo hl
  obtain ⟨ms, ae, ah, aH⟩ := qq bo
  have b8 := E_ hl
  have c4 : q ≠ [] := by
   cases x with
   | h y p =>
     simp only [loc] at hl
     split at hl
     ·simp only [Option.some.injEq, Prod.mk.injEq] at hl; simp [← hl.2]
     ·cases hl
   | az y p =>
     simp only [loc] at hl
     split at hl
     ·rename_i oI
      simp only [Option.some.injEq, Prod.mk.injEq] at hl
      obtain ⟨rfl, rfl⟩ := hl
      intro e; subst e; simp [I.gh] at oI
     ·cases hl
   | _ => simp [loc] at hl
  split at h
  ·cases h
  ·rename_i bQ mP
   split at h
   ·rename_i d0 lf
    split at h
    ·rename_i ax
     simp only [Option.some.injEq] at h; subst h
     refine ⟨ms ++ [⟨.cx, z, I.put q d (s z)⟩], ?_, ?_, ?_⟩
     ·rw [l5, ← ae, xr]
     ·intro m hm
      simp only [List.mem_append, List.mem_singleton] at hm ⊢
      rcases hm with hm | rfl
      ·exact ⟨.inr (ah m hm).1, (ah m hm).2⟩
      ·exact ⟨.inl b8, xv q _ _ _ lf (.inr c4) fun e => (c4 e).elim⟩
     ·intro aB af
      have aU := aH aB af.right
      simp only at aU
      simp only [gC, aU, E9 af.left, hl, af.left z b8, lf]
      cases d <;> first | (simp only [if_pos ax, Option.map_some, l5, xr]; done) | exact (mP _ rfl).elim
    ·cases h
   ·cases h
 ·cases h
theorem Sm {dB au : Option I} {av : I} (h : fS C s T x dB au = some (av, s1)) : Loc x.af x.af (fun s => fS C s T x dB au) s av s1 := by
 cases x with
 | h y q =>
   unfold fS at h
   split at h <;> first | (cases h; done) | skip
   all_goals (rename_i aq; try cases aq)
   rename_i e aA
   split at h
   ·rename_i sz xs fN
    split at h
    ·rename_i b nW nX
     split at h
     ·rename_i ax
      split at h
      ·rename_i d s2 bo
       simp only [Option.some.injEq, Prod.mk.injEq] at h
       obtain ⟨rfl, rfl⟩ := h
       obtain ⟨ms, ae, ah, aH⟩ := qq bo
       refine ⟨ms, ae, ah, fun aB af => ?_⟩
       have := aH aB af
       simp only at this
       have aU : aB y = s y := af y (by simp [I.af])
       simp only [fS, aA, aU, fN, nW, nX, if_pos ax, this]
      ·cases h
     ·cases h
    ·cases h
   ·cases h
 | _ =>
   have qs : s1 = s := by
    unfold fS at h
    repeat' split at h
    all_goals first | (cases h; done) | (simp only [Option.some.injEq, Prod.mk.injEq] at h; exact h.2.symm) | simp_all
   subst qs
   refine .pure fun aB _ => ?_
   unfold fS at h ⊢
   repeat' split at h
   all_goals first
    | (cases h; done)
    | (simp only [Option.some.injEq, Prod.mk.injEq] at h
       obtain ⟨rfl, _⟩ := h
       simp_all)
def pQ (C : cE) (e : TypeId) (s : ar) : I → Option (I × ar)
 | .bp => some (I.ao (C.T e).sz [], s)
 | .h a q => db s (.h a q)
 | _ => none
def lK (s1 : ar) : I → Option (List I × ar)
 | .bp => some ([], s1)
 | .slice cd => some (cd, s1)
 | .str l => some (l.map kX, s1)
 | .h a q => match db s1 (.h a q) with
   | some (.ao _ cd, s2) => some (cd, s2)
   | _ => none
 | _ => none
theorem Fb (C : cE) (s : ar) (T b0 : TypeId) (x y : I) : mq C s T b0 x y = (match (C.T T).k with
 | .slice e => if (C.T e).ok = true ∧ (C.T e).zero.wd = (C.T e).sz ∧ (flat (C.T e).zero).isSome = true ∧ An C e b0 = true then
   match pQ C e s x with
   | some (.ao sz xs, s1) => if sz = (C.T e).sz then
     match lK s1 (kV x.owner y) with
     | some (cd, s2) => if (∀ d ∈ cd, d.wd = (C.T e).sz) ∧ (xs.length + cd.length) * (C.T e).bytes ≤ 140737488355328 ∧ xs.length + cd.length ≤ 9223372036854775807 then some (.ao sz (xs ++ cd), s2) else none
     | none => none
     else none
   | _ => none
   else none
 | _ => none) := by
 unfold mq
 generalize kV x.owner y = kU
 cases (C.T T).k <;> first
  | rfl
  | (cases x <;> cases kU <;> rfl)
theorem Sp {e : TypeId} {d : I} (ae : pQ C e s x = some (d, s1)) : Loc x.af x.af (fun s => pQ C e s x) s d s1 := by
 cases x with
 | bp =>
   simp only [pQ, Option.some.injEq, Prod.mk.injEq] at ae
   obtain ⟨ae, rfl⟩ := ae
   exact .pure fun aB _ => by simp only [pQ, ae]
 | h a q => exact qq ae
 | _ => simp [pQ] at ae
theorem Sq {cd : List I} (ah : lK s y = some (cd, s1)) : Loc y.af y.af (fun s => lK s y) s cd s1 := by
 cases y with
 | bp =>
   simp only [lK, Option.some.injEq, Prod.mk.injEq] at ah
   obtain ⟨rfl, rfl⟩ := ah
   exact .pure fun aB _ => rfl
 | slice cd =>
   simp only [lK, Option.some.injEq, Prod.mk.injEq] at ah
   obtain ⟨rfl, rfl⟩ := ah
   exact .pure fun aB _ => rfl
 | str l =>
   simp only [lK, Option.some.injEq, Prod.mk.injEq] at ah
   obtain ⟨rfl, rfl⟩ := ah
   exact .pure fun aB _ => rfl
 | h a q =>
   simp only [lK] at ah
   split at ah
   ·rename_i RG aBm hM bo
    simp only [Option.some.injEq, Prod.mk.injEq] at ah
    obtain ⟨rfl, rfl⟩ := ah
    obtain ⟨ms, bc, bA, cU⟩ := qq bo
    refine ⟨ms, bc, bA, fun aB af => ?_⟩
    have := cU aB af
    simp only at this
    simp only [lK, this]
   ·cases ah
 | _ => simp [lK] at ah
theorem Sr {av : I} (h : mq C s T A x y = some (av, s1)) : Loc (x.af ++ y.af) (x.af ++ y.af) (fun s => mq C s T A x y) s av s1 := by
 rw [Fb] at h
 split at h
 ·rename_i e aA
  split at h
  ·rename_i ax
   split at h
   ·rename_i sz xs s2 ae
    split at h
    ·rename_i eM
     split at h
     ·rename_i cd fo ah
      split at h
      ·rename_i mK
       simp only [Option.some.injEq, Prod.mk.injEq] at h
       obtain ⟨rfl, rfl⟩ := h
       obtain ⟨oR, rfl, a7, a3⟩ := Sp ae
       obtain ⟨sH, rfl, iN, lh⟩ := (Sq ah).mono (Fa _ _) (Fa _ _)
       refine ⟨oR ++ sH, (l5 _ _ _).symm, ?_, ?_⟩
       ·intro m hm
        simp only [List.mem_append] at hm ⊢
        rcases hm with hm | hm
        ·exact ⟨.inl (a7 m hm).1, (a7 m hm).2⟩
        ·exact ⟨.inr (iN m hm).1, (iN m hm).2⟩
       ·intro aB af
        have aU := a3 aB af.left
        have ba := lh (dU oR aB) (af.right.dU oR)
        simp only at aU ba
        simp only [Fb, aA, if_pos ax, aU, if_pos eM, ba, if_pos mK, l5]
      ·cases h
     ·cases h
    ·cases h
   ·cases h
  ·cases h
 ·cases h
theorem JU {b1 : gI} {av : I} (h : b3 C s b1 = some (av, s1)) : Loc (use s b1) (dR s b1) (fun s => b3 C s b1) s av s1 := by
 cases b1 with
 | shr b1 => simp [b3] at h
 | mM f args u x => simp [b3] at h
 | kz f args L => simp [b3] at h
 | qp x =>
   simp only [b3] at h
   unfold pO at h
   split at h
   ·rename_i y q aq
    obtain ⟨ms, ae, ah, aH⟩ := qq h
    refine ⟨ms, ae, by simpa only [dR, aq] using ah, fun aB af => ?_⟩
    have e := aI.gJ (x := x) af
    have ba := aH aB (by rw [← aq]; exact el.aP af)
    simp only [b3, e, aq, pO]
    exact ba
   ·rename_i JV
    simp only [Option.some.injEq, Prod.mk.injEq] at h
    obtain ⟨rfl, rfl⟩ := h
    refine .pure fun aB af => ?_
    have e := aI.gJ (x := x) af
    simp only [b3, e, pO]
 | rq x =>
   simp only [b3, Option.some.injEq, Prod.mk.injEq] at h
   obtain ⟨rfl, rfl⟩ := h
   exact .pure fun aB af => by simp only [b3, aI.gJ (x := x) af]
 | jZ T x =>
   obtain ⟨ms, ae, ah, aH⟩ := Sk h
   refine ⟨ms, ae, ah, fun aB af => ?_⟩
   simp only [b3, aI.gJ (x := x) af]
   exact aH aB (el.aP af)
 | n1 T b0 x y =>
   simp only [b3, Option.map_eq_some_iff, Prod.mk.injEq] at h
   obtain ⟨d, aj, rfl, rfl⟩ := h
   exact .pure fun aB af => by
    simp only [use] at af
    simp only [b3, aI.gJ (x := x) af.left, aI.gJ (x := y) af.right, aj, Option.map_some]
 | bad => simp [b3] at h
 | pN h4 x y =>
   simp only [b3, Option.map_eq_some_iff, Prod.mk.injEq] at h
   obtain ⟨d, aj, rfl, rfl⟩ := h
   exact .pure fun aB af => by
    simp only [use] at af
    simp only [b3, aI.gJ (x := x) af.left, aI.gJ (x := y) af.right, aj, Option.map_some]
 | cap T x =>
   simp only [b3] at h
   split at h
   ·rename_i e aA aq
    simp only [Option.some.injEq, Prod.mk.injEq] at h
    obtain ⟨rfl, rfl⟩ := h
    exact .pure fun aB af => by simp only [b3, aI.gJ (x := x) af, aA, aq]
   ·cases h
 | ct x =>
   simp only [b3, Option.some.injEq, Prod.mk.injEq] at h
   obtain ⟨rfl, rfl⟩ := h
   exact .pure fun aB af => by simp only [b3, aI.gJ (x := x) af]
 | iO x =>
   simp only [b3] at h
   split at h
   ·rename_i y q aq
    obtain ⟨ms, ae, ah, aH⟩ := qq h
    refine ⟨ms, ae, by simpa only [dR, aq] using ah, fun aB af => ?_⟩
    have e := aI.gJ (x := x) af
    have ba := aH aB (by rw [← aq]; exact el.aP af)
    simp only [b3, e, aq]
    exact ba
   ·rename_i JV
    simp only [Option.some.injEq, Prod.mk.injEq] at h
    obtain ⟨rfl, rfl⟩ := h
    refine .pure fun aB af => ?_
    have e := aI.gJ (x := x) af
    simp only [b3, e]
 | pick c a b =>
   simp only [b3] at h
   split at h
   ·rename_i gA ad
    simp only [Option.some.injEq, Prod.mk.injEq] at h
    obtain ⟨rfl, rfl⟩ := h
    refine .pure fun aB af => ?_
    simp only [use] at af
    simp only [b3, aI.gJ (x := c) af.left, aI.gJ (x := a) af.right.left, aI.gJ (x := b) af.right.right, ad]
   ·cases h
 | ho T =>
   simp only [b3, Option.map_eq_some_iff, Prod.mk.injEq] at h
   obtain ⟨d, aj, rfl, rfl⟩ := h
   exact .pure fun aB af => by simp only [b3, aj, Option.map_some]
 | dh T x =>
   obtain ⟨ms, ae, ah, aH⟩ := Sj h
   refine ⟨ms, ae, ah, fun aB af => ?_⟩
   simp only [b3, aI.gJ (x := x) af]
   exact aH aB (el.aP af)
 | fw T ps =>
   obtain ⟨ms, ae, ah, aH⟩ := Sh h
   simp only [List.map_map, Function.comp_def] at ah aH
   refine ⟨ms, ae, ah, fun aB af => ?_⟩
   simp only [b3, aI.E8 (ps := ps) af]
   refine aH aB (af.sub fun u hu => ?_)
   simp only [use]
   exact aI.Ax u (by simpa [List.map_map, Function.comp_def] using hu)
 | eW T n ps =>
   obtain ⟨ms, ae, ah, aH⟩ := Si h
   simp only [List.map_map, Function.comp_def] at ah aH
   refine ⟨ms, ae, ah, fun aB af => ?_⟩
   simp only [b3, aI.E8 (ps := ps) af]
   refine aH aB (af.sub fun u hu => ?_)
   simp only [use]
   exact aI.Ax u (by simpa [List.map_map, Function.comp_def] using hu)
 | cl T x =>
   simp only [b3, Option.map_eq_some_iff, Prod.mk.injEq] at h
   obtain ⟨d, aj, rfl, rfl⟩ := h
   exact .pure fun aB af => by simp only [b3, aI.gJ (x := x) af, R7 (el.aP af), aj, Option.map_some]
 | gC T x y =>
   simp only [b3, Option.map_eq_some_iff, Prod.mk.injEq] at h
   obtain ⟨s2, aj, rfl, rfl⟩ := h
   obtain ⟨ms, ae, ah, aH⟩ := Sl aj
   refine ⟨ms, ae, ah, fun aB af => ?_⟩
   simp only [use] at af
   simp only [b3, aI.gJ (x := x) af.left, aI.gJ (x := y) af.right]
   exact aH aB (af.sub fun u hu => by simp only [List.mem_append] at hu ⊢; exact hu.imp (aI.sG u) (aI.sG u))
 | gu x =>
   simp only [b3, Option.map_eq_some_iff, Prod.mk.injEq] at h
   obtain ⟨d, aj, rfl, rfl⟩ := h
   exact .pure fun aB af => by simp only [b3, aI.gJ (x := x) af, Se (el.aP af), aj, Option.map_some]
 | ck op T x y =>
   simp only [b3, Option.map_eq_some_iff, Prod.mk.injEq] at h
   obtain ⟨d, aj, rfl, rfl⟩ := h
   refine .pure fun aB af => ?_
   simp only [use] at af
   simp only [b3, aI.gJ (x := x) af.left, aI.gJ (x := y) af.right, Sd (el.aP af.left), aj, Option.map_some]
 | un op x =>
   simp only [b3, Option.map_eq_some_iff, Prod.mk.injEq] at h
   obtain ⟨d, aj, rfl, rfl⟩ := h
   exact .pure fun aB af => by simp only [b3, aI.gJ (x := x) af, aj, Option.map_some]
 | gH A B x =>
   simp only [b3, Option.map_eq_some_iff, Prod.mk.injEq] at h
   obtain ⟨d, aj, rfl, rfl⟩ := h
   exact .pure fun aB af => by simp only [b3, aI.gJ (x := x) af, Sa (el.aP af), aj, Option.map_some]
 | iy f cs =>
   simp only [b3, Option.some.injEq, Prod.mk.injEq] at h
   obtain ⟨rfl, rfl⟩ := h
   exact .pure fun aB af => by simp only [b3, aI.E7 (xs := cs) af]
 | eQ T l c =>
   simp only [b3, Option.map_eq_some_iff, Prod.mk.injEq] at h
   obtain ⟨d, aj, rfl, rfl⟩ := h
   refine .pure fun aB af => ?_
   simp only [use] at af
   simp only [b3, aI.gJ (x := l) af.left, aI.gJ (x := c) af.right, aj, Option.map_some]
 | fS T x dB au =>
   simp only [b3] at h
   obtain ⟨ms, ae, ah, aH⟩ := Sm h
   refine ⟨ms, ae, ah, fun aB af => ?_⟩
   simp only [use] at af
   simp only [b3, aI.gJ (x := x) af.left, JN af.right.left, JN af.right.right]
   exact aH aB (el.aP af.left)
 | c1 T x k =>
   simp only [b3, Option.map_eq_some_iff, Prod.mk.injEq] at h
   obtain ⟨d, aj, rfl, rfl⟩ := h
   exact .pure fun aB af => by simp only [b3, aI.gJ (x := x) af, R8 (el.aP af), aj, Option.map_some]
 | fv T x i =>
   simp only [b3, Option.map_eq_some_iff, Prod.mk.injEq] at h
   obtain ⟨d, aj, rfl, rfl⟩ := h
   refine .pure fun aB af => ?_
   simp only [use] at af
   simp only [b3, aI.gJ (x := x) af.left, aI.gJ (x := i) af.right, R9 (el.aP af.left), aj, Option.map_some]
 | idx T x i =>
   simp only [b3, Option.map_eq_some_iff, Prod.mk.injEq] at h
   obtain ⟨d, aj, rfl, rfl⟩ := h
   refine .pure fun aB af => ?_
   simp only [use] at af
   simp only [b3, aI.gJ (x := x) af.left, aI.gJ (x := i) af.right, aj, Option.map_some]
 | ex x k =>
   simp only [b3, Option.map_eq_some_iff, Prod.mk.injEq] at h
   obtain ⟨d, aj, rfl, rfl⟩ := h
   exact .pure fun aB af => by simp only [b3, aI.gJ (x := x) af, Sg (el.aP af), aj, Option.map_some]
 | mm T x k =>
   simp only [b3, Option.bind_eq_some_iff] at h
   obtain ⟨d, aj, h⟩ := h
   unfold pO at h
   split at h
   ·rename_i y q
    have aq := Sf aj
    obtain ⟨ms, ae, ah, aH⟩ := qq h
    refine ⟨ms, ae, by simpa only [dR, aq, I.af] using ah, fun aB af => ?_⟩
    have ba := aH aB (by rw [show (I.h y q).af = (aP s x).af from aq.symm]; exact el.aP af)
    simp only [b3, aI.gJ (x := x) af, JO (el.aP af), aj, Option.bind_some, pO]
    exact ba
   ·rename_i JV
    simp only [Option.some.injEq, Prod.mk.injEq] at h
    obtain ⟨rfl, rfl⟩ := h
    refine .pure fun aB af => ?_
    simp only [b3, aI.gJ (x := x) af, JO (el.aP af), aj, Option.bind_some, pO]
 | call f args => simp [b3] at h
 | len T x =>
   simp only [b3, Option.map_eq_some_iff, Prod.mk.injEq] at h
   obtain ⟨d, aj, rfl, rfl⟩ := h
   exact .pure fun aB af => by simp only [b3, aI.gJ (x := x) af, R_ (el.aP af), aj, Option.map_some]
 | app T b0 x y =>
   obtain ⟨ms, ae, ah, aH⟩ := Sr h
   refine ⟨ms, ae, ah, fun aB af => ?_⟩
   simp only [use] at af
   simp only [b3, aI.gJ (x := x) af.left, aI.gJ (x := y) af.right]
   exact aH aB (af.sub fun u hu => by simp only [List.mem_append] at hu ⊢; exact hu.imp (aI.sG u) (aI.sG u))
end
def I.one : I → Bool
 | .agg _ => false
 | .tuple _ => false
 | _ => true
mutual
def view (s : ar) : I → Option I
 | .h x q => match I.sub q (s x) with
   | some d => (match d with | .tuple _ => none | .fg _ => none | d => if d.plain then none else some d.share)
   | none => none
 | .az x q => if I.gh q (s x) then (match I.sub q (s x) with
   | some d => (match d with | .tuple _ => none | d => some (.ref d.share))
   | none => none) else none
 | .ad _ _ => none
 | .fn f cap => (views s cap).map (.fn f)
 | .hole => none
 | d => some d
def views (s : ar) : List I → Option (List I)
 | [] => some []
 | d :: ds => match view s d, views s ds with
   | some a, some b => some (a :: b)
   | _, _ => none
end
mutual
theorem Fe : ∀ d : I, d.share.plain = true
 | .hole => rfl
 | .bool _ => rfl
 | .fu => rfl
 | .int _ _ => rfl
 | .str _ => rfl
 | .dI => rfl
 | .bp => rfl
 | .slice _ => rfl
 | .ao _ _ => rfl
 | .ref _ => rfl
 | .bb _ => rfl
 | .agg ay => by simp only [I.share, I.plain]; exact Ff ay
 | .tuple ay => by simp only [I.share, I.plain]; exact Ff ay
 | .fn _ _ => rfl
 | .h _ _ => rfl
 | .az _ _ => rfl
 | .ad _ _ => rfl
 | .fg _ => rfl
theorem Ff : ∀ ds : List I, I.ed (I.shares ds) = true
 | [] => rfl
 | d :: ds => by simp only [I.shares, I.ed]; rw [Fe d, Ff ds]; rfl
end
theorem Ss {s : ar} {a d : I} (h : a.plain = true) (he : view s a = some d) : d.plain = true := by
 cases a with
 | h x q =>
   simp only [view] at he
   split at he
   ·rename_i e fN
    cases e <;> simp only at he <;> first
     | (cases he; done)
     | (split at he
        ·cases he
        ·simp only [Option.some.injEq] at he
         subst he; exact Fe _)
   ·cases he
 | az x q =>
   simp only [view] at he
   split at he
   ·split at he
    ·rename_i e fN
     cases e <;> simp only at he <;> first
      | (cases he; done)
      | (simp only [Option.some.injEq] at he; subst he; rfl)
    ·cases he
   ·cases he
 | fn f cap =>
   simp only [view, Option.map_eq_some_iff] at he
   obtain ⟨ds, _, rfl⟩ := he
   rfl
 | hole => simp [view] at he
 | ad y q => simp [view] at he
 | _ => simp only [view, Option.some.injEq] at he; subst he; exact h
theorem Fg {d : I} {v : Value} (ae : ∀ vs, d ≠ .tuple vs) (h : eN d v) : eN d.share v := by
 cases d <;> first | exact h | exact (ae _ rfl).elim
theorem St (w : World) : ∀ (q : List Nat) (av d bQ : I) (cs dp : List Value) (a da : Option (Nat × Nat)), I.sub q av = some d → bQ.wd = d.wd → dJ w q av cs a = some (d, dp, da) →
  dJ w q (I.put q bQ av) cs a = some (bQ, dp, da) := by
 intro q
 induction q with
 | nil =>
   intro av d bQ cs dp a da aj hw h
   simp only [dJ, Option.some.injEq, Prod.mk.injEq] at h
   obtain ⟨rfl, rfl, rfl⟩ := h
   simp only [I.put, dJ]
 | cons k q ih =>
   intro av d bQ cs dp a da aj hw h
   cases av with
   | agg ay =>
     simp only [I.sub] at aj
     split at aj
     ·rename_i x aq
      have aA : k < ay.length := (List.getElem?_eq_some_iff.1 aq).1
      simp only [dJ, aq] at h
      simp only [I.put, aq, dJ]
      rw [List.getElem?_set_self aA]
      simp only [List.take_set_of_le (Nat.le_refl k), I.uC q x d bQ aj hw]
      exact ih _ _ _ _ _ _ _ aj hw h
     ·cases aj
   | tuple ay =>
     simp only [I.sub] at aj
     split at aj
     ·rename_i x aq
      have aA : k < ay.length := (List.getElem?_eq_some_iff.1 aq).1
      simp only [dJ, aq] at h
      simp only [I.put, aq, dJ]
      rw [List.getElem?_set_self aA]
      simp only [List.take_set_of_le (Nat.le_refl k), I.uC q x d bQ aj hw]
      exact ih _ _ _ _ _ _ _ aj hw h
     ·cases aj
   | ao sz ay =>
     simp only [I.sub] at aj
     split at aj
     ·rename_i x aq
      have aA : k < ay.length := (List.getElem?_eq_some_iff.1 aq).1
      have lg : (ay.set k (I.put q bQ x))[k]? = some (I.put q bQ x) := List.getElem?_set_self aA
      simp only [I.put, aq]
      rw [dJ.eq_def] at h ⊢
      simp only [aq] at h
      simp only
      rw [lg]
      split at h
      ·rename_i aU
       simp only [Option.some.injEq] at aU; subst aU
       exact ih _ _ _ _ _ _ _ aj hw h
      ·cases h
     ·cases aj
   | bb x =>
     cases k with
     | zero =>
       simp only [I.sub] at aj
       rw [dJ.eq_def] at h ⊢
       simp only at h
       simp only [I.put]
       split at h
       ·rw [I.uC q x d bQ aj hw]
        exact ih _ _ _ _ _ _ _ aj hw h
       ·cases h
     | succ k => simp [I.sub] at aj
   | _ => simp [I.sub] at aj
section
variable {w0 w aO : World} {F0 X F Fc : Nat → Prop} {S : Nat → Nat → Prop} {s aB : ar} {aC iL : Nat → Value}
theorem Su (h : b9 w0 F0 X F S s aC w) (bI : ∀ b, F b → Fc b) : ∀ n,
  (∀ (a : I) (v : Value) (d : I), SizeOf.sizeOf a ≤ n → (∀ t ∈ a.af, ∀ b, S t b → Fc b) → view s a = some d → aM w F s aC a v (fun _ => False) → aM w Fc aB iL d v (fun _ => False)) ∧
  (∀ (as : List I) (vs : List Value) (ds : List I), SizeOf.sizeOf as ≤ n → (∀ t ∈ I.e5 as, ∀ b, S t b → Fc b) → views s as = some ds → eL w F s aC as vs → eL w Fc aB iL ds vs) := by
 intro n
 induction n with
 | zero => exact ⟨fun a _ _ b8 => by cases a <;> simp at b8 <;> omega, fun as _ _ b8 => by cases as <;> simp at b8 <;> omega⟩
 | succ n ih =>
   refine ⟨fun a v d b8 bZ he aQ => ?_, fun as vs ds b8 bZ he aQ => ?_⟩
   ·cases a with
    | h x q =>
      simp only [view] at he
      split at he
      ·rename_i e fN
       have key : (∀ ay, e ≠ .tuple ay) ∧ e.plain = false ∧ d = e.share ∧ ∀ o, e ≠ .fg o := by
        cases e <;> simp only at he <;> first
         | (cases he; done)
         | (split at he
            ·cases he
            ·rename_i gG
             simp only [Option.some.injEq] at he
             exact ⟨(fun _ h => by cases h), by simpa using gG, he.symm, fun _ h => by cases h⟩)
       obtain ⟨mP, gG, rfl, lZ⟩ := key
       rw [aM] at aQ
       obtain ⟨dp, da, bc, bA, cU⟩ := aQ e fN gG
       have bo := iX fN (.inl gG)
       have aq := (aM.c0 bo).1 (h.eg x)
       obtain ⟨gO, a7, fl, hK, k0, ca, cy, fy, eB, gr⟩ := ctx q (s x) (cL (aC x)) (S x) none e aq.2 fN
       rw [bc] at k0
       simp only [Option.some.injEq, Prod.mk.injEq, true_and] at k0
       obtain ⟨rfl, rfl⟩ := k0
       have Ev : e.share.tree = true := by cases e <;> first | rfl | (simp [I.plain] at gG; done) | exact (lZ _ rfl).elim
       have aZ := aw.shared bI e dp hK (fun b ad => bZ x (by simp [I.af]) b (cy b ad)) eB
       exact (aM.c0 Ev).2 ⟨Fg mP cU, by rw [bA]; exact aZ⟩
      ·cases he
    | az x q =>
      simp only [view] at he
      split at he
      ·rename_i oI
       split at he
       ·rename_i e fN
        have key : (∀ ay, e ≠ .tuple ay) ∧ d = .ref e.share := by
         cases e <;> simp only at he <;> first
          | (cases he; done)
          | (simp only [Option.some.injEq] at he; exact ⟨(fun _ h => by cases h), he.symm⟩)
        obtain ⟨mP, rfl⟩ := key
        rw [aM] at aQ
        obtain ⟨dp, b, o, bc, rfl⟩ := aQ e fN oI
        have bo := iX fN (.inr oI)
        have aq := (aM.c0 bo).1 (h.eg x)
        obtain ⟨gO, a7, fl, hK, k0, ca, cy, fy, eB, gr⟩ := ctx q (s x) (cL (aC x)) (S x) none e aq.2 fN
        rw [bc] at k0
        simp only [Option.some.injEq, Prod.mk.injEq, true_and] at k0
        obtain ⟨rfl, rfl⟩ := k0
        have aZ := aw.shared bI e dp hK (fun b ad => bZ x (by simp [I.af]) b (cy b ad)) eB
        rcases gr with ⟨l, r, _, ba, _⟩ | ⟨gA, cur, ty, fr, l, r, aU, ba, aW, cS, cZ, _⟩
        ·simp at ba
        ·simp only [Option.some.injEq, Prod.mk.injEq] at aU
         obtain ⟨rfl, rfl⟩ := aU
         refine (aM.c0 rfl).2 ⟨rfl, ?_⟩
         rw [aw]
         refine ⟨b, l.length, dp, rfl, bZ x (by simp [I.af]) b (ca b ba), ?_, aZ⟩
         intro j c cH
         simp only [World.cell?, aW]
         have ax : cur[l.length + j]? = some c := by
          rw [← Array.getElem?_toList, cZ, List.getElem?_append_right (by omega), List.getElem?_append_left (by
           have := (List.getElem?_eq_some_iff.1 cH).1; omega)]
          rw [← cH]; congr 1; omega
         simpa using ax
       ·cases he
      ·cases he
    | fn f cap =>
      simp only [view, Option.map_eq_some_iff] at he
      obtain ⟨ds, jM, rfl⟩ := he
      rw [aM] at aQ
      obtain ⟨arr, rfl, ax⟩ := aQ
      rw [aM]
      exact ⟨arr, rfl, ih.2 cap _ _ (by simp at b8; omega) (by simpa [I.af] using bZ) jM ax⟩
    | hole => simp [view] at he
    | ad y q => simp [view] at he
    | _ =>
      simp only [view, Option.some.injEq] at he; subst he
      have mj := (aM.c0 rfl).1 aQ
      exact (aM.c0 rfl).2 ⟨mj.1, aw.mono bI _ _ _ _ (fun _ h => h) mj.2⟩
   ·cases as with
    | nil =>
      simp only [views, Option.some.injEq] at he; subst he
      rw [eL] at aQ ⊢; exact aQ
    | cons a as =>
      simp only [views] at he
      split at he
      ·rename_i d ds ae ah
       simp only [Option.some.injEq] at he; subst he
       rw [eL] at aQ ⊢
       obtain ⟨v, jW, rfl, bc, bA⟩ := aQ
       simp at b8
       simp only [I.e5, List.mem_append] at bZ
       exact ⟨v, jW, rfl, ih.1 a v d (by omega) (fun t bo => bZ t (.inl bo)) ae bc, ih.2 as jW ds (by omega) (fun t bo => bZ t (.inr bo)) ah bA⟩
      ·cases he
theorem b9.i7 (h : b9 w0 F0 X F S s aC w) {x : Nat} {q : List Nat} {d0 bQ : I} {dp : List Value} {a : Option (Nat × Nat)} {Sn : Nat → Prop}
  (aj : I.sub q (s x) = some d0) (bF : dJ w q (s x) (cL (aC x)) none = some (d0, dp, a)) (ah : ∀ vs, bQ ≠ .tuple vs) (bo : q = [] → bQ.tree = true ∧ eN bQ (aC x))
  (aH : ∀ k p, q = k :: p → (s x).tree = true ∧ (∀ v, i3 d0 v → i3 bQ v)) (hw : bQ.wd = d0.wd)
  (aQ : aw w F bQ dp Sn) (e7 : ∀ b, Sn b → b < w.heap.size) (bI : ∀ b, Sn b → ¬ F b) (bZ : ∀ u b, Sn b → ¬ S u b) (bf : ∀ b, Sn b → X b ∨ w0.heap.size ≤ b) :
  b9 w0 F0 X F (g3 S x (fun b => S x b ∨ Sn b)) (dM (lY x s) x (I.put q bQ (s x))) aC w := by
 have fb : dM aC x (aC x) = aC := by funext u; simp only [dM]; split <;> simp_all
 have main : (I.put q bQ (s x)).tree = true ∧ eN (I.put q bQ (s x)) (aC x) ∧ aw w F (I.put q bQ (s x)) (cL (aC x)) (fun b => S x b ∨ Sn b) := by
  cases q with
  | nil =>
    simp only [dJ, Option.some.injEq, Prod.mk.injEq] at bF
    obtain ⟨aU, ba, aW⟩ := bF
    obtain ⟨bc, bA⟩ := bo rfl
    simp only [I.put]
    refine ⟨bc, ?_, ?_⟩
    ·exact bA
    ·rw [ba]; exact aw.mono (fun _ h => h) _ _ _ _ (fun b ad => .inr ad) aQ
  | cons k p =>
    obtain ⟨bc, bA⟩ := aH k p rfl
    have aq := (aM.c0 bc).1 (h.eg x)
    obtain ⟨gO, a7, fl, hK, k0, ca, cy, fy, eB, gr⟩ := ctx (k :: p) (s x) (cL (aC x)) (S x) none d0 aq.2 aj
    rw [bF] at k0
    simp only [Option.some.injEq, Prod.mk.injEq, true_and] at k0
    obtain ⟨rfl, rfl⟩ := k0
    refine ⟨?_, ?_, ?_⟩
    ·rcases sg k p bQ (s x) with ⟨ay, gs, aU, e⟩ | ⟨ay, gs, aU, e⟩ | ⟨sz, xs, cd, aU, e⟩ | ⟨y, z, aU, e⟩ | e <;> rw [e] <;> first | rfl | exact bc
    ·refine En aq.1 aj bA (fun _ vs e => (ah vs e).elim) hw
    ·have mono : ∀ b, (fl b ∨ Sn b) → (S x b ∨ Sn b) := fun b ad => ad.imp (ca b) id
     rcases gr with ⟨l, r, aU, ba, aW⟩ | ⟨b, cur, ty, fr, l, r, aU, ba, aW, cS, cZ, cn⟩
     ·rw [aU]
      exact aw.mono (fun _ h => h) _ _ _ _ mono (aW w bQ dp Sn (fun _ _ => rfl) (fun _ _ => rfl) hw aQ (fun b ad ax => bZ x b ad (ca b ax)))
     ·refine aw.mono (fun _ h => h) _ _ _ _ mono (cn w bQ dp Sn (fun _ _ => rfl) (fun _ _ _ => rfl) ?_ hw aQ (fun b ad ax => bZ x b ad (ca b ax)))
      rw [aW, ← cZ]
 have := h.ID (t := x) main.1 main.2.1 main.2.2 (by rintro b (ad | ad); exact h.fh x b ad; exact e7 b ad) (by rintro b (ad | ad); exact h.gF x b ad; exact bI b ad)
  (by rintro u b dL (ad | ad); exact fun hu => h.gq u x b dL hu ad; exact bZ u b ad) (by rintro b (ad | ad); exact h.ez x b ad; exact bf b ad)
 rwa [fb] at this
end
mutual
def I.de : I → Bool
 | .slice _ => false
 | .ref _ => false
 | .fn _ _ => false
 | .h _ _ => false
 | .az _ _ => false
 | .ad _ _ => false
 | .ao _ xs => I.hT xs
 | .bb d => d.de
 | .agg ay => I.hT ay
 | .tuple ay => I.hT ay
 | _ => true
def I.hT : List I → Bool
 | [] => true
 | d :: ds => d.de && I.hT ds
end
mutual
theorem aw.de {w : World} {F b7 : Nat → Prop} : ∀ (d : I) (cs : List Value) (S : Nat → Prop), d.de = true → aw w F d cs S → aw w b7 d cs S
 | .hole, _, _, _, h => h
 | .bool _, _, _, _, h => h
 | .fu, _, _, _, h => h
 | .int _ _, _, _, _, h => h
 | .str _, _, _, _, h => h
 | .dI, _, _, _, h => h
 | .bp, _, _, _, h => h
 | .slice xs, cs, S, a_, h => by simp [I.de] at a_
 | .ref d, cs, S, a_, h => by simp [I.de] at a_
 | .ao sz xs, cs, S, a_, h => by
   rw [aw] at h ⊢
   rcases h with h | ⟨b, cap, cur, e, fr, aX, ae, ah, aH, a6, bN, cW, cI, fM, hQ, h5, la⟩
   ·exact .inl h
   ·exact .inr ⟨b, cap, cur, e, fr, aX, ae, ah, aH, a6, bN, cW, cI, fM, bg.de xs _ _ a_ hQ, h5, la⟩
 | .bb d, cs, S, a_, h => by
   rw [aw] at h ⊢
   obtain ⟨b, cur, e, fr, aX, ae, ah, aH, a6, bN, cW, cI⟩ := h
   exact ⟨b, cur, e, fr, aX, ae, ah, aH, a6, aw.de d _ _ a_ bN, cW, cI⟩
 | .agg ay, cs, S, a_, h => by rw [aw] at h ⊢; exact bg.de ay _ _ a_ h
 | .tuple ay, cs, S, a_, h => by rw [aw] at h ⊢; exact bg.de ay _ _ a_ h
 | .fn _ _, _, _, a_, h => by simp [I.de] at a_
 | .h _ _, _, _, _, h => h
 | .az _ _, _, _, _, h => h
 | .ad _ _, _, _, _, h => h
 | .fg _, _, _, _, h => h
theorem bg.de {w : World} {F b7 : Nat → Prop} : ∀ (ds : List I) (cs : List Value) (S : Nat → Prop), I.hT ds = true → bg w F ds cs S → bg w b7 ds cs S
 | [], _, _, _, h => h
 | d :: ds, cs, S, a_, h => by
   simp only [I.hT, Bool.and_eq_true] at a_
   rw [bg] at h ⊢
   obtain ⟨cD, cz, cu, ej, ae, ah, aH, a6, bN, cW⟩ := h
   exact ⟨cD, cz, cu, ej, ae, aw.de d _ _ a_.1 ah, bg.de ds _ _ a_.2 aH, a6, bN, cW⟩
end
theorem JW : ∀ (q : List Nat) (av d e : I), I.sub q av = some d → I.sub q (I.put q e av) = some e := by
 intro q
 induction q with
 | nil => intro av d e _; simp [I.put, I.sub]
 | cons k q ih =>
   intro av d e h
   cases av with
   | agg ay =>
     simp only [I.sub] at h
     split at h
     ·rename_i x aq
      have aA : k < ay.length := (List.getElem?_eq_some_iff.1 aq).1
      simp only [I.put, aq, I.sub, List.getElem?_set_self aA]
      exact ih _ _ _ h
     ·cases h
   | tuple ay =>
     simp only [I.sub] at h
     split at h
     ·rename_i x aq
      have aA : k < ay.length := (List.getElem?_eq_some_iff.1 aq).1
      simp only [I.put, aq, I.sub, List.getElem?_set_self aA]
      exact ih _ _ _ h
     ·cases h
   | ao sz ay =>
     simp only [I.sub] at h
     split at h
     ·rename_i x aq
      have aA : k < ay.length := (List.getElem?_eq_some_iff.1 aq).1
      simp only [I.put, aq, I.sub, List.getElem?_set_self aA]
      exact ih _ _ _ h
     ·cases h
   | bb x =>
     cases k with
     | zero => simp only [I.sub] at h; simp only [I.put, I.sub]; exact ih _ _ _ h
     | succ k => simp [I.sub] at h
   | _ => simp [I.sub] at h
structure c5 where
 a : I
 g : Bool
 d : I
 o : I
def I.own : I → Bool
 | .ao _ _ => true
 | .bb _ => true
 | _ => false
def I.g5 : I → Bool
 | .ao _ _ => true
 | .bb _ => true
 | .fg _ => true
 | .agg ay => !I.ed ay
 | _ => false
def rr (d o : I) : Bool := match d, o with
 | .agg a, .agg b => I.eK a == I.eK b
 | .agg _, _ => false
 | _, .agg _ => false
 | _, _ => true
theorem ru {d : I} (h : d.g5 = true) : d.plain = false ∧ d.tree = true ∧ ∀ vs, d ≠ .tuple vs := by
 cases d <;> simp [I.g5] at h <;> first | exact ⟨rfl, rfl, fun vs e => by cases e⟩ | exact ⟨by simp only [I.plain]; exact h, rfl, fun vs e => by cases e⟩
theorem Sv {d o : I} (h : d.g5 = true) (b_ : o.g5 = true) (hl : rr d o = true) : o.wd = d.wd ∧ (∀ v, eN d v → eN o v) ∧ ∀ v, i3 d.du v → i3 o v := by
 cases d <;> simp [I.g5] at h <;> cases o <;> simp [I.g5] at b_ <;> simp [rr] at hl <;> first
  | exact ⟨rfl, fun _ h => h, fun _ h => h⟩
  | exact ⟨by simp only [I.wd]; exact hl.symm, fun _ h => h, fun _ h => h⟩
def c5.ok (s : ar) (p : c5) : Prop :=
 if p.g then (match p.a with | .h x q => I.sub q (s x) = some p.d ∧ p.d.g5 = true ∧ (p.o = .hole ∨ (p.o.g5 = true ∧ rr p.d p.o = true)) | _ => False)
 else view s p.a = some p.d
def iP : List c5 → Bool
 | [] => true
 | p :: r => (r.all fun c2 => !(p.g || c2.g) || (p.a.af.all fun u => !c2.a.af.contains u)) && iP r
def c5.take (s : ar) (p : c5) : ar :=
 if p.g then (match p.a with | .h x q => dM (ji x s) x (I.put q p.d.du (s x)) | _ => s) else s
def c5.i7 (s : ar) (p : c5) : ar :=
 if p.g then (match p.a, p.o with | _, .hole => s | .h x q, o => dM (lY x s) x (I.put q o (s x)) | _, _ => s) else s
def fB (s : ar) (ps : List c5) : ar := ps.foldl c5.take s
def ia (s : ar) (ps : List c5) : ar := ps.foldl c5.i7 s
section
variable {w0 w aO : World} {F0 X F Fc : Nat → Prop} {S : Nat → Nat → Prop} {s aB : ar} {aC iL : Nat → Value}
def Sw (w : World) (F : Nat → Prop) (s1 : ar) (aC : Nat → Value) (p : c5) (v : Value) (Sn : Nat → Prop) : Prop :=
 ∃ x q a0, p.a = .h x q ∧ I.sub q (s1 x) = some p.d.du ∧ dJ w q (s1 x) (cL (aC x)) none = some (p.d.du, cL v, a0) ∧ (s1 x).af = [] ∧ (q = [] → eN p.d (aC x)) ∧ (q ≠ [] → (s1 x).tree = true) ∧
   eN p.d v ∧ aw w F p.d (cL v) Sn
theorem Sy {p : c5} {x : Nat} (h : (s x).af = []) (az : p.g = true → x ∉ p.a.af) : c5.take s p x = s x := by
 unfold c5.take
 split
 ·rename_i cb
  cases cJ : p.a with
  | h y q =>
    have : x ≠ y := by
     have := az cb
     rw [cJ] at this
     simpa [I.af] using this
    simp only
    rw [jX _ _ this]
    exact xt _ (by rw [h]; simp)
  | _ => rfl
 ·rfl
theorem Fh : ∀ {ps : List c5} {s : ar} {x : Nat}, (s x).af = [] → (∀ p ∈ ps, p.g = true → x ∉ p.a.af) → fB s ps x = s x := by
 intro ps
 induction ps with
 | nil => intros; rfl
 | cons p ps ih =>
   intro s x h az
   have e := Sy (s := s) (p := p) h (az p (by simp))
   show fB (c5.take s p) ps x = s x
   rw [ih (by rw [e]; exact h) (fun c2 fi => az c2 (by simp [fi])), e]
theorem qt {d : I} (h : d.own = true) : d.plain = false ∧ d.tree = true ∧ d.du = .hole ∧ d.one = true ∧ d.wd = 1 ∧ (∀ v, eN d v ↔ Value.hf v = true) := by
 cases d <;> simp [I.own] at h <;> exact ⟨rfl, rfl, rfl, rfl, rfl, fun v => Iff.rfl⟩
theorem Sz : ∀ (ps : List c5) (vs : List Value) (s : ar) (S : Nat → Nat → Prop), b9 w0 F0 X F S s aC w → ps.length = vs.length →
  (∀ (i : Nat) (p : c5) (v : Value), ps[i]? = some p → vs[i]? = some v → p.a.plain = true ∧ aM w F s aC p.a v (fun _ => False) ∧ (p.g = true → p.ok s)) → iP ps = true →
  ∃ (Sn cu : Nat → Nat → Prop), b9 w0 F0 X F cu (fB s ps) aC w ∧ (∀ u b, cu u b → S u b) ∧
    (∀ (i : Nat) (p : c5) (v : Value), ps[i]? = some p → vs[i]? = some v → p.g = true → Sw w F (fB s ps) aC p v (Sn i)) ∧
    (∀ i b, Sn i b → ∃ p, ps[i]? = some p ∧ p.g = true) ∧
    (∀ i b, Sn i b → ∃ u, S u b) ∧ (∀ i u b, Sn i b → ¬ cu u b) ∧ (∀ i j b, i ≠ j → Sn i b → ¬ Sn j b) ∧
    (∀ (bQ : I) (gU : Value) (aX : Nat → Prop), (∀ p ∈ ps, p.g = true → ∀ u ∈ p.a.af, u ∉ bQ.af) → aM w F s aC bQ gU aX → aM w F (fB s ps) aC bQ gU aX) := by
 intro ps
 induction ps with
 | nil =>
   intro vs s S h hl _ _
   exact ⟨fun _ _ => False, S, h, fun _ _ h => h, fun i p v az => by simp at az, fun _ _ h => h.elim, fun _ _ h => h.elim, fun _ _ _ h => h.elim, fun _ _ _ _ h => h.elim, fun _ _ _ _ h => h⟩
 | cons p ps ih =>
   intro vs s S h hl xm lk
   cases vs with
   | nil => simp at hl
   | cons v vs =>
     simp only [List.length_cons, Nat.add_right_cancel_iff] at hl
     simp only [iP, Bool.and_eq_true, List.all_eq_true, Bool.or_eq_true, Bool.not_eq_true'] at lk
     obtain ⟨oS, n5⟩ := lk
     have uW : ∀ c2 ∈ ps, (p.g = true ∨ c2.g = true) → ∀ u ∈ p.a.af, u ∉ c2.a.af := by
      intro c2 fi cb u hu
      rcases oS c2 fi with e | e
      ·rcases cb with cb | cb <;> simp [cb] at e
      ·simpa using e u hu
     obtain ⟨f1, f2, f3⟩ := xm 0 p v rfl rfl
     cases cb : p.g with
     | false =>
       have g4 : c5.take s p = s := by simp [c5.take, cb]
       obtain ⟨Sn, cu, bc, bA, cU, eY, gg, iM, jk, l1⟩ := ih vs s S h hl (fun i c2 gU az aQ => xm (i + 1) c2 gU (by simpa using az) (by simpa using aQ)) n5
       have aU : fB s (p :: ps) = fB s ps := by show fB (c5.take s p) ps = _; rw [g4]
       rw [aU]
       refine ⟨fun i => match i with | 0 => fun _ => False | i + 1 => Sn i, cu, bc, bA, ?_, ?_, ?_, ?_, ?_, fun bQ gU aX aj => l1 bQ gU aX fun c2 fi => aj c2 (by simp [fi])⟩
       ·intro i c2 gU az aQ h_
        cases i with
        | zero => simp at az; subst az; rw [cb] at h_; cases h_
        | succ i => exact cU i c2 gU (by simpa using az) (by simpa using aQ) h_
       ·intro i b ad
        cases i with
        | zero => exact ad.elim
        | succ i => simpa using eY i b ad
       ·intro i b ad
        cases i with
        | zero => exact ad.elim
        | succ i => exact gg i b ad
       ·intro i u b ad
        cases i with
        | zero => exact ad.elim
        | succ i => exact iM i u b ad
       ·intro i j b dL au cH
        cases i with
        | zero => exact au.elim
        | succ i =>
          cases j with
          | zero => exact cH.elim
          | succ j => exact jk i j b (by omega) au cH
     | true =>
       have gj := f3 cb
       simp only [c5.ok, cb, if_true] at gj
       split at gj
       ·rename_i x q cJ
        obtain ⟨fN, xw, wZ⟩ := gj
        obtain ⟨nr, ln, oT⟩ := ru xw
        have SA : db s p.a = some (p.d, dM (ji x s) x (I.put q p.d.du (s x))) := by
         rw [cJ]; simp only [db, fN, nr]; rfl
        obtain ⟨cu, t1, t2, t3, SB, t4, t5, t6, t7, t8, t9, t10, t11⟩ := pD h f1 f2 SA
        have g4 : c5.take s p = dM (ji x s) x (I.put q p.d.du (s x)) := by simp [c5.take, cb, cJ]
        have oU : ∀ c2 ∈ ps, x ∉ c2.a.af := fun c2 fi => uW c2 fi (.inl cb) x (by rw [cJ]; simp [I.af])
        have Fi : c5.take s p x = I.put q p.d.du (s x) := by rw [g4, mJ]
        have JX : (c5.take s p x).af = [] := by
         rw [Fi]; exact xv q _ _ _ fN (.inl nr) (fun _ => by cases aj : p.d <;> first | rfl | (rw [aj] at xw; simp [I.g5] at xw))
        obtain ⟨Sn, ej, bc, bA, cU, eY, gg, iM, jk, l1⟩ := ih vs (c5.take s p) cu (by rw [g4]; exact t1) hl (by
         intro i c2 gU az aQ
         obtain ⟨ca, cy, fy⟩ := xm (i + 1) c2 gU (by simpa using az) (by simpa using aQ)
         have hm : c2 ∈ ps := List.mem_of_getElem? az
         refine ⟨ca, ?_, ?_⟩
         ·have := t11 _ _ _ cy
          rw [cJ] at this
          rw [g4]
          simp only [I.owner, kV] at this
          rwa [xt _ (oU c2 hm)] at this
         ·intro h_
          have := fy h_
          simp only [c5.ok, h_, if_true] at this ⊢
          split at this
          ·rename_i y jL sI
           have dL : y ≠ x := fun e => oU c2 hm (by rw [sI, e]; simp [I.af])
           rw [g4, jX _ _ dL]
           have bo := iX this.1 (.inl (ru this.2.1).1)
           simp only [ji, El bo]
           exact this
          ·exact this.elim) n5
        have aU : fB s (p :: ps) = fB (c5.take s p) ps := rfl
        have rv : fB (c5.take s p) ps x = I.put q p.d.du (s x) := by
         rw [Fh JX (fun c2 fi _ => oU c2 fi), Fi]
        rw [aU]
        refine ⟨fun i => match i with | 0 => SB | i + 1 => Sn i, ej, bc, fun u b ad => t9 u b (bA u b ad), ?_, ?_, ?_, ?_, ?_, ?_⟩
        rotate_left 5
        ·intro bQ gU aX aj jE
         refine l1 bQ gU aX (fun c2 fi => aj c2 (by simp [fi])) ?_
         have := t11 _ _ _ jE
         rw [cJ] at this
         rw [g4]
         simp only [I.owner, kV] at this
         rwa [xt _ (aj p (by simp) cb x (by rw [cJ]; simp [I.af]))] at this
        ·intro i c2 gU az aQ h_
         cases i with
         | zero =>
           simp at az aQ; subst az aQ
           have Az := f2
           rw [cJ, aM] at Az
           obtain ⟨dp, a0, cD, cz, ke⟩ := Az _ fN nr
           refine ⟨x, q, a0, cJ, ?_, ?_, ?_, ?_, ?_, t3, t4⟩
           ·rw [rv]; exact JW q _ _ _ fN
           ·rw [rv, cz]; exact St w q _ _ _ _ _ _ _ fN (I.rf _) cD
           ·rw [rv, ← Fi]; exact JX
           ·intro c4; subst c4
            simp only [I.sub, Option.some.injEq] at fN
            have := (aM.c0 (by rw [fN]; exact ln)).1 (h.eg x)
            rw [fN] at this
            exact this.1
           ·intro c4
            have bo := iX fN (.inl nr)
            rw [rv]
            cases q with
            | nil => exact (c4 rfl).elim
            | cons k q => rcases sg k q p.d.du (s x) with ⟨ay, gs, aU, e⟩ | ⟨ay, gs, aU, e⟩ | ⟨sz, xs, cd, aU, e⟩ | ⟨y, z, aU, e⟩ | e <;> rw [e] <;> first | rfl | exact bo
         | succ i => exact cU i c2 gU (by simpa using az) (by simpa using aQ) h_
        ·intro i b ad
         cases i with
         | zero => exact ⟨p, rfl, cb⟩
         | succ i => simpa using eY i b ad
        ·intro i b ad
         cases i with
         | zero => exact t10 b ad
         | succ i => obtain ⟨u, hu⟩ := gg i b ad; exact ⟨u, t9 u b hu⟩
        ·intro i u b ad
         cases i with
         | zero => exact fun hu => t7 u b ad (bA u b hu)
         | succ i => exact iM i u b ad
        ·intro i j b dL au cH
         cases i with
         | zero =>
           cases j with
           | zero => exact dL rfl
           | succ j => obtain ⟨u, hu⟩ := gg j b cH; exact t7 u b au hu
         | succ i =>
           cases j with
           | zero => obtain ⟨u, hu⟩ := gg i b au; exact t7 u b cH hu
           | succ j => exact jk i j b (by omega) au cH
       ·exact gj.elim
end
def g6 (l : List I) : ar := fun i => l.getD i .hole
def ib (l : List Value) : Nat → Value := fun i => l.getD i undef
def oV (P : Program) (f : FuncId) (args : Array Value) (w : World) (mQ : Value → World → Prop) : Prop :=
 ((callFunc f args).run P w = .ok (.enter f args) w ∧ Calls P f args w (fun e aO => ∃ v, e = .returned v ∧ mQ v aO)) ∨
 ∃ v aO, (callFunc f args).run P w = .ok (.value v) aO ∧ mQ v aO
theorem oV.mono {P : Program} {f : FuncId} {args : Array Value} {w : World} {mQ JY : Value → World → Prop} (h : oV P f args w mQ) (aZ : ∀ v aO, mQ v aO → JY v aO) : oV P f args w JY := by
 rcases h with ⟨ae, ah⟩ | ⟨v, aO, ae, ah⟩
 ·exact .inl ⟨ae, Calls.mono ah fun e aO ⟨v, e, h⟩ => ⟨v, e, aZ v aO h⟩⟩
 ·exact .inr ⟨v, aO, ae, aZ v aO ah⟩
def bm (C : cE) (f : FuncId) (as : List I) (r : I) (outs : List I) : Prop :=
 ∀ (w : World) (F X : Nat → Prop) (S : Nat → Nat → Prop) (vs : List Value), vs.length = as.length → b9 w F X F S (g6 as) (ib vs) w →
   oV C.P f vs.toArray w fun v aO => ∃ b7 aX, b9 w F X b7 aX (g6 (r :: outs)) (ib (v :: vs)) aO
def I.res : I → Bool
 | .h _ _ => false
 | .az _ _ => false
 | .ad _ _ => false
 | .fn _ _ => false
 | _ => true
theorem JZ {d : I} (h : d.tree = true) : d.af = [] := by cases d <;> first | rfl | (simp [I.tree] at h)
mutual
theorem Fj {s aB : ar} : ∀ (a : I) (d : I), (∀ u ∈ a.af, (s u).tree = true → aB u = s u) → view s a = some d → view aB a = some d
 | .h x q, d, hu, h => by
   have bo : (s x).tree = true := by
    simp only [view] at h
    split at h
    ·rename_i e fN
     cases e <;> simp only at h <;> first
      | (cases h; done)
      | (split at h
         ·cases h
         ·rename_i az
          exact iX fN (.inl (by simpa using az)))
    ·cases h
   simp only [view] at h ⊢
   rw [hu x (by simp [I.af]) bo]; exact h
 | .az x q, d, hu, h => by
   have bo : (s x).tree = true := by
    simp only [view] at h
    split at h
    ·rename_i ax
     split at h
     ·rename_i e fN; exact iX fN (.inr ax)
     ·cases h
    ·cases h
   simp only [view] at h ⊢
   rw [hu x (by simp [I.af]) bo]; exact h
 | .ad x q, d, hu, h => by simp [view] at h
 | .fn f cap, d, hu, h => by
   simp only [view, Option.map_eq_some_iff] at h ⊢
   obtain ⟨ds, ae, ah⟩ := h
   exact ⟨ds, J0 cap ds (by simpa [I.af] using hu) ae, ah⟩
 | .hole, d, hu, h => h
 | .bool _, d, hu, h => h
 | .fu, d, hu, h => h
 | .int _ _, d, hu, h => h
 | .str _, d, hu, h => h
 | .dI, d, hu, h => h
 | .bp, d, hu, h => h
 | .slice _, d, hu, h => h
 | .ao _ _, d, hu, h => h
 | .ref _, d, hu, h => h
 | .bb _, d, hu, h => h
 | .agg _, d, hu, h => h
 | .tuple _, d, hu, h => h
 | .fg _, d, hu, h => h
theorem J0 {s aB : ar} : ∀ (as : List I) (ds : List I), (∀ u ∈ I.e5 as, (s u).tree = true → aB u = s u) → views s as = some ds → views aB as = some ds
 | [], ds, hu, h => h
 | a :: as, ds, hu, h => by
   simp only [I.e5, List.mem_append] at hu
   simp only [views] at h ⊢
   split at h
   ·rename_i x y ae ah
    rw [Fj a x (fun u hm => hu u (.inl hm)) ae, J0 as y (fun u hm => hu u (.inr hm)) ah]; exact h
   ·cases h
end
section
variable {C : cE} {w0 w aO : World} {F0 X F Fc : Nat → Prop} {S : Nat → Nat → Prop} {s aB : ar} {aC iL : Nat → Value}
def SC (w : World) (F : Nat → Prop) (s : ar) (aC : Nat → Value) (p : c5) (v : Value) (So : Nat → Prop) : Prop :=
 p.g = true → p.o = .hole ∨ ∃ x q a0 d0, p.a = .h x q ∧ I.sub q (s x) = some d0 ∧ dJ w q (s x) (cL (aC x)) none = some (d0, cL v, a0) ∧ (s x).af = [] ∧
  (q = [] → eN p.o (aC x)) ∧ (q ≠ [] → (s x).tree = true) ∧ p.o.g5 = true ∧ aw w F p.o (cL v) So ∧ p.o.wd = d0.wd ∧ ∀ v, i3 d0 v → i3 p.o v
theorem SD : ∀ (ps : List c5) (vs : List Value) (s : ar) (S So : Nat → Nat → Prop), b9 w0 F0 X F S s aC w → ps.length = vs.length →
  (∀ (i : Nat) (p : c5) (v : Value), ps[i]? = some p → vs[i]? = some v → SC w F s aC p v (So i)) →
  (∀ i b, So i b → b < w.heap.size ∧ ¬ F b ∧ (X b ∨ w0.heap.size ≤ b) ∧ ∀ u, ¬ S u b) → (∀ i j b, i ≠ j → So i b → ¬ So j b) → iP ps = true →
  ∃ ej, b9 w0 F0 X F ej (ia s ps) aC w ∧ ∀ u b, ej u b → S u b ∨ ∃ i, So i b := by
 intro ps
 induction ps with
 | nil => intro vs s S So h _ _ _ _ _; exact ⟨S, h, fun u b ad => .inl ad⟩
 | cons p ps ih =>
   intro vs s S So h hl Fk ad aj lk
   cases vs with
   | nil => simp at hl
   | cons v vs =>
     simp only [List.length_cons, Nat.add_right_cancel_iff] at hl
     simp only [iP, Bool.and_eq_true, List.all_eq_true, Bool.or_eq_true, Bool.not_eq_true'] at lk
     obtain ⟨oS, n5⟩ := lk
     have uW : ∀ c2 ∈ ps, (p.g = true ∨ c2.g = true) → ∀ u ∈ p.a.af, u ∉ c2.a.af := by
      intro c2 fi cb u hu
      rcases oS c2 fi with e | e
      ·rcases cb with cb | cb <;> simp [cb] at e
      ·simpa using e u hu
     have skip : c5.i7 s p = s → ∃ ej, b9 w0 F0 X F ej (ia s (p :: ps)) aC w ∧ ∀ u b, ej u b → S u b ∨ ∃ i, So i b := by
      intro g4
      obtain ⟨ej, bc, bA⟩ := ih vs s S (fun i => So (i + 1)) h hl (fun i c2 gU az aQ => Fk (i + 1) c2 gU (by simpa using az) (by simpa using aQ)) (fun i b h => ad (i + 1) b h)
       (fun i j b dL => aj (i + 1) (j + 1) b (by omega)) n5
      refine ⟨ej, ?_, fun u b hu => (bA u b hu).imp id fun ⟨i, au⟩ => ⟨i + 1, au⟩⟩
      show b9 _ _ _ _ _ (ia (c5.i7 s p) ps) _ _
      rw [g4]; exact bc
     cases cb : p.g with
     | false => exact skip (by simp [c5.i7, cb])
     | true =>
       rcases Fk 0 p v rfl rfl cb with b_ | ⟨x, q, a0, d0, cJ, cD, cz, ke, mL, qu, Fl, SE, Fm, Fo⟩
       ·exact skip (by simp only [c5.i7, cb, b_, if_true])
       ·obtain ⟨nr, ln, ry⟩ := ru Fl
        have g4 : c5.i7 s p = dM (lY x s) x (I.put q p.o (s x)) := by
         simp only [c5.i7, cb, if_true, cJ]
         cases SF : p.o <;> first | rfl | (rw [SF] at Fl; simp [I.g5] at Fl)
        have step := h.i7 (x := x) (q := q) (bQ := p.o) cD cz ry (fun c4 => ⟨ln, mL c4⟩) (fun k r c4 => ⟨qu (by rw [c4]; simp), Fo⟩) Fm SE
         (fun b h => (ad 0 b h).1) (fun b h => (ad 0 b h).2.1) (fun u b h => (ad 0 b h).2.2.2 u) (fun b h => (ad 0 b h).2.2.1)
        rw [← g4] at step
        obtain ⟨ej, bc, bA⟩ := ih vs (c5.i7 s p) _ (fun i => So (i + 1)) step hl (by
         intro i c2 gU az aQ h_
         have hm : c2 ∈ ps := List.mem_of_getElem? az
         rcases Fk (i + 1) c2 gU (by simpa using az) (by simpa using aQ) h_ with b_ | ⟨y, jL, U, d1, ca, cy, fy, eB, gr, dH, jD, gi, mo⟩
         ·exact .inl b_
         ·have dL : y ≠ x := fun e => uW c2 hm (.inl cb) x (by rw [cJ]; simp [I.af]) (by rw [ca, e]; simp [I.af])
          have nj : c5.i7 s p y = s y := by
           rw [g4, jX _ _ dL]
           exact E4 _ (by rw [eB]; simp)
          exact .inr ⟨y, jL, U, d1, ca, by rw [nj]; exact cy, by rw [nj]; exact fy, by rw [nj]; exact eB, gr, by rw [nj]; exact dH, jD, gi, mo⟩)
         (by
          intro i b au
          obtain ⟨kW, iN, lh, bt⟩ := ad (i + 1) b au
          refine ⟨kW, iN, lh, fun u hu => ?_⟩
          simp only [g3] at hu
          split at hu
          ·rcases hu with hu | hu
           ·exact bt _ hu
           ·exact aj 0 (i + 1) b (by omega) hu au
          ·exact bt _ hu)
         (fun i j b dL => aj (i + 1) (j + 1) b (by omega)) n5
        refine ⟨ej, bc, fun u b hu => ?_⟩
        rcases bA u b hu with hu | ⟨i, au⟩
        ·simp only [g3] at hu
         split at hu
         ·rename_i e; subst e
          exact hu.imp id fun h => ⟨0, h⟩
         ·exact .inl hu
        ·exact .inr ⟨i + 1, au⟩
def kf (ps : List c5) : Bool := ps.any fun p => !p.g && !p.a.af.isEmpty
theorem J1 (h : b9 w0 F0 X F S s aC w) {ps : List c5} {vs : List Value} {f : FuncId} {r : I} (hl : ps.length = vs.length)
  (jE : ∀ (i : Nat) (p : c5) (v : Value), ps[i]? = some p → vs[i]? = some v → p.a.plain = true ∧ aM w F s aC p.a v (fun _ => False))
  (gj : ∀ p ∈ ps, p.ok s) (lk : iP ps = true) (bF : ∀ (Fc mu : Nat → Prop) (fl : Nat → Nat → Prop), (∀ b, F b → Fc b) → (∀ b, mu b → ∃ u, S u b) → b9 w Fc mu Fc fl (g6 (ps.map (·.d))) (ib vs) w →
   oV C.P f vs.toArray w fun v aO => ∃ b7 aX, b9 w Fc mu b7 aX (g6 (r :: ps.map (·.o))) (ib (v :: vs)) aO) (aZ : r.res = true)
  (a_ : kf ps = true → r.de = true ∧ ∀ p ∈ ps, p.o.de = true) :
  oV C.P f vs.toArray w fun v aO => ∃ b7 aX, b9 w0 F0 X b7 aX (ia (fB s ps) ps) aC aO ∧ lG w0 X b7 aX (ia (fB s ps) ps) aC aO r v ∧ ∀ b, F b → b7 b ∧ aO.heap[b]? = w.heap[b]? := by
 obtain ⟨Sn, cu, bc, bA, cU, eY, gg, iM, jk, l1⟩ := Sz ps vs s S h hl (fun i p v az aQ => ⟨(jE i p v az aQ).1, (jE i p v az aQ).2, fun _ => gj p (List.mem_of_getElem? az)⟩) lk
 have apart : ∀ (i j : Nat) (p c2 : c5), ps[i]? = some p → ps[j]? = some c2 → i ≠ j → (p.g = true ∨ c2.g = true) → ∀ u ∈ p.a.af, u ∉ c2.a.af := by
  clear jE gj bF a_ bc cU eY l1 hl
  induction ps with
  | nil => intro i j p c2 az; simp at az
  | cons h7 ps ih =>
    simp only [iP, Bool.and_eq_true, List.all_eq_true, Bool.or_eq_true, Bool.not_eq_true'] at lk
    obtain ⟨oS, n5⟩ := lk
    have uW : ∀ c2 ∈ ps, (h7.g = true ∨ c2.g = true) → ∀ u ∈ h7.a.af, u ∉ c2.a.af := by
     intro c2 fi cb u hu
     rcases oS c2 fi with e | e
     ·rcases cb with cb | cb <;> simp [cb] at e
     ·simpa using e u hu
    intro i j p c2 az fi dL cb u hu
    cases i with
    | zero =>
      simp at az; subst az
      cases j with
      | zero => exact (dL rfl).elim
      | succ j => exact uW c2 (List.mem_of_getElem? (by simpa using fi)) cb u hu
    | succ i =>
      cases j with
      | zero =>
        simp at fi; subst fi
        exact fun xx => uW p (List.mem_of_getElem? (by simpa using az)) cb.symm u xx hu
      | succ j => exact ih n5 i j p c2 (by simpa using az) (by simpa using fi) (by omega) cb u hu
 let Fc : Nat → Prop := fun b => F b ∨ (kf ps = true ∧ ∃ u, cu u b)
 let mu : Nat → Prop := fun b => ∃ i, Sn i b
 have Fp : ∀ b, F b → ¬ mu b := fun b bI ⟨i, au⟩ => by obtain ⟨u, hu⟩ := gg i b au; exact h.gF u b hu bI
 have xy : ∀ u b, cu u b → ¬ mu b := fun u b hu ⟨i, au⟩ => iM i u b au hu
 have AA : ∀ b, mu b → (X b ∨ w0.heap.size ≤ b) ∧ b < w.heap.size := fun b ⟨i, au⟩ => by obtain ⟨u, hu⟩ := gg i b au; exact ⟨h.ez u b hu, h.fh u b hu⟩
 have pre : b9 w Fc mu Fc Sn (g6 (ps.map (·.d))) (ib vs) w := by
  refine ⟨fun _ h => h, fun _ h => .inl h, ?_, fun i b au => (AA b ⟨i, au⟩).2, ?_, fun i j b dL => jk i j b dL, fun i b au => .inl ⟨i, au⟩, ?_, fun _ _ _ => rfl, Nat.le_refl _, rfl, rfl, rfl⟩
  ·rintro b (ad | ⟨_, u, hu⟩)
   ·exact h.ga b ad
   ·exact bc.fh u b hu
  ·rintro i b au (ad | ⟨_, u, hu⟩)
   ·exact Fp b ad ⟨i, au⟩
   ·exact iM i u b au hu
  ·intro t
   cases az : ps[t]? with
   | none =>
     have : g6 (ps.map (·.d)) t = .hole := by simp [g6, List.getD, az]
     rw [this, aM]; trivial
   | some p =>
     have e7 : t < vs.length := by rw [← hl]; exact (List.getElem?_eq_some_iff.1 az).1
     have aQ : vs[t]? = some vs[t] := List.getElem?_eq_getElem e7
     have aU : g6 (ps.map (·.d)) t = p.d := by simp [g6, List.getD, az]
     have ba : ib vs t = vs[t] := by simp [ib, List.getD, aQ]
     rw [aU, ba]
     have hm : p ∈ ps := List.mem_of_getElem? az
     have aA := gj p hm
     cases cb : p.g with
     | true =>
       obtain ⟨x, q, a0, ca, cy, fy, eB, gr, dH, jD, gi⟩ := cU t p _ az aQ cb
       simp only [c5.ok, cb, if_true, ca] at aA
       exact (aM.c0 (ru aA.2.1).2.1).2 ⟨jD, aw.mono (fun b ad => .inl ad) _ _ _ _ (fun _ h => h) gi⟩
     | false =>
       simp only [c5.ok, cb] at aA
       obtain ⟨f1, f2⟩ := jE t p _ az aQ
       have J2 : ∀ c2 ∈ ps, c2.g = true → ∀ u ∈ c2.a.af, u ∉ p.a.af := by
        intro c2 fi h_ u hu
        obtain ⟨j, cH⟩ := List.getElem?_of_mem fi
        refine apart j t c2 p cH az (fun e => ?_) (.inl h_) u hu
        subst e; rw [az] at cH; simp only [Option.some.injEq] at cH; rw [cH, h_] at cb; cases cb
       have Az := l1 _ _ _ J2 f2
       have lg : view (fB s ps) p.a = some p.d := Fj _ _ (fun u hu bo => Fh (JZ bo) (fun c2 fi h_ xx => J2 c2 fi h_ u xx hu)) (by simpa using aA)
       refine aM.nothing (Ss f1 lg) ((Su bc (Fc := Fc) (fun b ad => .inl ad) (SizeOf.sizeOf p.a)).1 p.a _ p.d (Nat.le_refl _) ?_ lg Az)
       intro u hu b ad
       refine .inr ⟨?_, u, ad⟩
       simp only [kf, List.any_eq_true]
       refine ⟨p, hm, ?_⟩
       cases kT : p.a.af with
       | nil => rw [kT] at hu; cases hu
       | cons _ _ => simp [cb]
 refine oV.mono (bF Fc mu Sn (fun b ad => .inl ad) (fun b ⟨i, au⟩ => gg i b au) pre) ?_
 rintro v aO ⟨b7, aX, ax⟩
 have keep : ∀ b, b < w.heap.size → ¬ mu b → aO.heap[b]? = w.heap[b]? := ax.old
 let oW : Nat → Prop := fun b => if kf ps = true then F b else b7 b
 have J3 : ∀ b, F b → b7 b := fun b ad => ax.hL b (.inl ad)
 have uX : ∀ b, F b → oW b := fun b ad => by
  simp only [oW]; split
  ·exact ad
  ·exact J3 b ad
 have xz : ∀ b, oW b → b7 b := fun b ad => by
  simp only [oW] at ad; split at ad
  ·exact J3 b ad
  ·exact ad
 have J4 : ∀ b, oW b → F b ∨ mu b ∨ w.heap.size ≤ b := fun b ad => by
  simp only [oW] at ad; split at ad
  ·exact .inl ad
  ·rename_i rn
   rcases ax.hZ b ad with (ad | ⟨ae, _⟩) | ad | ad
   ·exact .inl ad
   ·exact (rn ae).elim
   ·exact .inr (.inl ad)
   ·exact .inr (.inr ad)
 have mid : b9 w0 F0 X oW cu (fB s ps) aC aO := by
  refine ⟨fun b ad => uX b (bc.hL b ad), ?_, fun b ad => ax.ga b (xz b ad), fun t b ad => Nat.lt_of_lt_of_le (bc.fh t b ad) ax.size, ?_, bc.gq, bc.ez, ?_, ?_, Nat.le_trans bc.size ax.size, ax.os.trans bc.os, ax.tape.trans bc.tape, ax.output.trans bc.output⟩
  ·intro b ad
   rcases J4 b ad with ad | ad | ad
   ·exact bc.hZ b ad
   ·rcases (AA b ad).1 with h | h
    ·exact .inr (.inl h)
    ·exact .inr (.inr h)
   ·exact .inr (.inr (Nat.le_trans bc.size ad))
  ·intro t b bo ad
   rcases J4 b ad with ad | ad | ad
   ·exact bc.gF t b bo ad
   ·exact xy t b bo ad
   ·exact absurd (bc.fh t b bo) (by omega)
  ·intro t
   exact aM.frame (Sx := cu) (fun b ad => keep b (h.ga b ad) (Fp b ad)) uX (fun x b ad => keep b (bc.fh x b ad) (xy x b ad)) bc.eg _ _ _ (fun b ad => keep b (bc.fh t b ad) (xy t b ad)) (bc.eg t)
  ·intro b ad kS
   refine (keep b (Nat.lt_of_lt_of_le ad bc.size) fun aq => ?_).trans (bc.old b ad kS)
   rcases (AA b aq).1 with h | h
   ·exact kS h
   ·omega
 have J5 : ∀ (d : I) (cs : List Value) (ez : Nat → Prop), (kf ps = true → d.de = true) → aw aO b7 d cs ez → aw aO oW d cs ez := by
  intro d cs ez EU gX
  by_cases hle : kf ps = true
  ·exact aw.de d cs ez (EU hle) gX
  ·exact aw.mono (fun b ad => by simp only [oW]; rw [if_neg hle]; exact ad) _ _ _ _ (fun _ h => h) gX
 have bound : ∀ i b, aX i b → b < aO.heap.size ∧ ¬ oW b ∧ (X b ∨ w0.heap.size ≤ b) ∧ ∀ u, ¬ cu u b := by
  intro i b ad
  refine ⟨ax.fh i b ad, fun bI => ax.gF i b ad (xz b bI), ?_, fun u hu => ?_⟩
  ·rcases ax.ez i b ad with aq | aq
   ·exact (AA b aq).1
   ·exact .inr (Nat.le_trans bc.size aq)
  ·rcases ax.ez i b ad with aq | aq
   ·exact xy u b hu aq
   ·exact absurd (bc.fh u b hu) (by omega)
 obtain ⟨ej, ca, cy⟩ := SD ps vs (fB s ps) cu (fun i => aX (i + 1)) mid hl (by
  intro i p gU az aQ cb
  have hm : p ∈ ps := List.mem_of_getElem? az
  have aA := gj p hm
  obtain ⟨x, q, a0, aU, ba, aW, cS, cZ, cn, bV, hv⟩ := cU i p gU az aQ cb
  simp only [c5.ok, cb, if_true, aU] at aA
  rcases aA.2.2 with b_ | b_
  ·exact .inl b_
  ·obtain ⟨hx, l2, xA⟩ := Sv aA.2.1 b_.1 b_.2
   refine .inr ⟨x, q, a0, p.d.du, aU, ba, ?_, cS, fun c4 => l2 _ (cZ c4), cn, b_.1, ?_, hx.trans (I.rf _).symm, xA⟩
   ·cases q with
    | nil => simpa only [dJ] using aW
    | cons k q =>
      have bo := cn (by simp)
      rw [Ei (k :: q) _ _ (cu x) none _ ((aM.c0 bo).1 (bc.eg x)).2 ba (fun b ad => keep b (bc.fh x b ad) (xy x b ad))]
      exact aW
   ·have := ax.eg (i + 1)
    have kv : g6 (r :: ps.map (·.o)) (i + 1) = p.o := by simp [g6, List.getD, az]
    have nm : ib (v :: vs) (i + 1) = gU := by simp [ib, List.getD, aQ]
    rw [kv, nm] at this
    exact J5 _ _ _ (fun hle => (a_ hle).2 p hm) ((aM.c0 (ru b_.1).2.1).1 this).2)
  (fun i b ad => bound (i + 1) b ad) (fun i j b dL => ax.gq (i + 1) (j + 1) b (by omega)) lk
 refine ⟨oW, ej, ca, ?_, fun b ad => ⟨uX b ad, keep b (h.ga b ad) (Fp b ad)⟩⟩
 have bf := ax.eg 0
 have kv : g6 (r :: ps.map (·.o)) 0 = r := rfl
 have nm : ib (v :: vs) 0 = v := rfl
 rw [kv, nm] at bf
 cases bo : r.tree with
 | false =>
   cases r <;> first
    | (simp [I.tree] at bo; done)
    | (simp [I.res] at aZ; done)
    | exact .inl ⟨rfl, by rw [aM]; trivial⟩
 | true =>
   obtain ⟨s1, s2⟩ := (aM.c0 bo).1 bf
   have fo := J5 _ _ _ (fun hle => (a_ hle).1) s2
   refine .inr ⟨bo, s1, aX 0, fo, fun b ad => (bound 0 b ad).1, fun b ad => (bound 0 b ad).2.1, fun u b ad hu => ?_, fun b ad => (bound 0 b ad).2.2.1⟩
   rcases cy u b hu with hu | ⟨i, au⟩
   ·exact (bound 0 b ad).2.2.2 u hu
   ·exact ax.gq 0 (i + 1) b (by omega) ad au
theorem SG (h : b9 w0 F0 X F S s aC w) {ps : List c5} {vs : List Value} {f : FuncId} {r : I} (hl : ps.length = vs.length)
  (jE : ∀ (i : Nat) (p : c5) (v : Value), ps[i]? = some p → vs[i]? = some v → p.a.plain = true ∧ aM w F s aC p.a v (fun _ => False))
  (gj : ∀ p ∈ ps, p.ok s) (lk : iP ps = true) (bF : bm C f (ps.map (·.d)) r (ps.map (·.o))) (aZ : r.res = true)
  (a_ : kf ps = true → r.de = true ∧ ∀ p ∈ ps, p.o.de = true) :
  oV C.P f vs.toArray w fun v aO => ∃ b7 aX, b9 w0 F0 X b7 aX (ia (fB s ps) ps) aC aO ∧ lG w0 X b7 aX (ia (fB s ps) ps) aC aO r v ∧ ∀ b, F b → b7 b ∧ aO.heap[b]? = w.heap[b]? :=
 J1 h hl jE gj lk (fun Fc mu fl _ _ az => bF w Fc mu fl vs (by simp [hl]) az) aZ a_
end
structure cm where
 dst : Option Nat
 b1 : gI
 guard : Option (Nat × Bool)
def xB (ops : Array Oper) : Option (Nat × Bool) → Option (Option (Nat × Bool))
 | none => some none
 | some (j, b) => match (ops[j]?).bind (·.dst) with
   | some t => some (some (t, b))
   | none => none
structure Fr where
 n : Nat
 fx : List Nat
def lL (n : Fr) : Option Nat → Bool
 | none => true
 | some t => decide (t < n.n) && !n.fx.contains t
def oX (op : Op) : gI := match dk op with
 | some b1 => b1
 | none => .bad
def pR (n : Fr) (ops : Array Oper) (o : Oper) : Option cm :=
 if lL n o.dst = true then match xB ops o.guard with
  | some g => some ⟨o.dst, oX o.op, g⟩
  | none => none
 else none
def pS (n : Fr) (ops : Array Oper) : List Oper → Option (List cm)
 | [] => some []
 | o :: os => match pR n ops o, pS n ops os with
   | some r, some rs => some (r :: rs)
   | _, _ => none
def AB (C : cE) (s : ar) (f : aI) (args : List aI) (K : I → ar → Prop) : Prop :=
 ∃ (g : FuncId) (caps : List I) (ps : List c5) (r : I), aP s f = .fn g caps ∧ I.ed caps = true ∧ ps.map (·.a) = args.map (aP s) ++ caps ∧ (∀ p ∈ ps, p.ok s) ∧ iP ps = true ∧
   bm C g (ps.map (·.d)) r (ps.map (·.o)) ∧ r.res = true ∧ (kf ps = true → r.de = true ∧ ∀ p ∈ ps, p.o.de = true) ∧ K r (ia (fB s ps) ps)
mutual
def I.gk (s : ar) : I → Bool
 | .h x q => q.isEmpty && (s x).own
 | .ad x _ => !(s x).plain
 | .az _ _ => false
 | .hole => true
 | .fn _ cap => I.n6 s cap
 | d => d.plain
def I.n6 (s : ar) : List I → Bool
 | [] => true
 | d :: ds => d.gk s && I.n6 s ds
end
def mR (s : ar) : List (Nat × I) → ar
 | [] => s
 | p :: L => mR (dM s p.1 p.2) L
def lM (s : ar) : List (Nat × I) → Bool
 | [] => true
 | p :: L => p.2.gk s && lM s L
def jF (s : ar) (us : List Nat) : List (Nat × I) := us.map fun u => (u, s u)
def n7 (C : cE) (s : ar) (b1 : gI) (K : I → ar → Prop) : Prop :=
 match b1 with
 | .call f args => ∃ (g : FuncId) (caps : List I) (ps : List c5) (r : I), aP s f = .fn g caps ∧ I.ed caps = true ∧ ps.map (·.a) = args.map (aP s) ++ caps ∧ (∀ p ∈ ps, p.ok s) ∧ iP ps = true ∧
   bm C g (ps.map (·.d)) r (ps.map (·.o)) ∧ r.res = true ∧ (kf ps = true → r.de = true ∧ ∀ p ∈ ps, p.o.de = true) ∧ K r (ia (fB s ps) ps)
 | .shr b1 => ∃ av s1, b3 C s b1 = some (av, s1) ∧ av.tree = true ∧ (∀ vs, av ≠ .tuple vs) ∧ K av.share s1
 | .mM f args u x => s u = .h x [] ∧ (s x).own = true ∧ AB C s f args fun av s1 => s1 u = .hole ∧ (s1 x).own = true ∧ K av (dM s1 u (.h x []))
 | .kz f args us => lM s (jF s us) = true ∧ AB C s f args fun av s1 => lM s1 (jF s us) = true ∧ K av (mR s1 (jF s us))
 | b1 => ∃ av s1, b3 C s b1 = some (av, s1) ∧ K av s1
theorem AD {C : cE} {s : ar} {b1 : gI} {K dS : I → ar → Prop} (h : n7 C s b1 K) (aA : ∀ av s, K av s → dS av s) : n7 C s b1 dS := by
 cases b1 with
 | call f args =>
   obtain ⟨g, caps, ps, r, ae, gQ, ah, aH, a6, bN, cW, cI, fM⟩ := h
   exact ⟨g, caps, ps, r, ae, gQ, ah, aH, a6, bN, cW, cI, aA _ _ fM⟩
 | shr b1 =>
   obtain ⟨av, s1, ae, ah, aH, a6⟩ := h
   exact ⟨av, s1, ae, ah, aH, aA _ _ a6⟩
 | mM f args u x =>
   obtain ⟨ca, cy, g, caps, ps, r, ae, gQ, ah, aH, a6, bN, cW, cI, fM, hQ, h5⟩ := h
   exact ⟨ca, cy, g, caps, ps, r, ae, gQ, ah, aH, a6, bN, cW, cI, fM, hQ, aA _ _ h5⟩
 | kz f args us =>
   obtain ⟨cy, g, caps, ps, r, ae, gQ, ah, aH, a6, bN, cW, cI, fM, hQ⟩ := h
   exact ⟨cy, g, caps, ps, r, ae, gQ, ah, aH, a6, bN, cW, cI, fM, aA _ _ hQ⟩
 | _ =>
   obtain ⟨av, s1, ae, ah⟩ := h
   exact ⟨av, s1, ae, aA _ _ ah⟩
def l6 (C : cE) (s : ar) (o : cm) (K : ar → Prop) : Prop :=
 match o.guard with
 | none => n7 C s o.b1 fun av s1 => K (fin s1 o.dst av)
 | some (t, b) => match s t with
   | .bool gA => if gA = b then n7 C s o.b1 (fun av s1 => K (fin s1 o.dst av)) else K (fin s o.dst (.tuple []))
   | .tuple [] => K (fin s o.dst (.tuple []))
   | _ => False
def lN (C : cE) (s : ar) : List cm → (ar → Prop) → Prop
 | [], K => K s
 | o :: os, K => l6 C s o fun s1 => lN C s1 os K
def kg (C : cE) (ros : List cm) (s : ar) : List Nat → (ar → Prop) → Prop
 | [], K => K s
 | i :: l, K => match ros[i]? with
   | none => kg C ros s l K
   | some o => l6 C s o fun s1 => kg C ros s1 l K
theorem SH (C : cE) (K : ar → Prop) : ∀ (rs pre : List cm) (s : ar), lN C s rs K → kg C (pre ++ rs) s ((List.range rs.length).map (· + pre.length)) K := by
 intro rs
 induction rs with
 | nil => intro pre s h; exact h
 | cons r rs ih =>
   intro pre s h
   rw [List.length_cons, List.range_succ_eq_map, List.map_cons, List.map_map]
   simp only [kg, Nat.zero_add]
   rw [List.getElem?_append_right (Nat.le_refl _)]
   simp only [Nat.sub_self, List.getElem?_cons_zero]
   have key : ∀ s1, lN C s1 rs K → kg C (pre ++ r :: rs) s1 ((List.range rs.length).map ((fun x => x + pre.length) ∘ Nat.succ)) K := by
    intro s1 ae
    have := ih (pre ++ [r]) s1 ae
    simp only [List.append_assoc, List.singleton_append, List.length_append, List.length_singleton] at this
    have e : ((fun x => x + pre.length) ∘ Nat.succ) = fun x => x + (pre.length + 1) := by funext x; simp; omega
    rw [e]; exact this
   simp only [lN] at h
   unfold l6 at h ⊢
   split
   ·rename_i cb; rw [cb] at h; exact AD h fun av s1 => key _
   ·rename_i t b cb
    rw [cb] at h
    simp only at h
    split
    ·rename_i gA af
     rw [af] at h
     simp only at h
     split
     ·rename_i ad; rw [if_pos ad] at h; exact AD h fun av s1 => key _
     ·rename_i ad; rw [if_neg ad] at h; exact key _ h
    ·rename_i af; rw [af] at h; exact key _ h
    ·rename_i ae ah
     split at h
     ·exact ae _ (by assumption)
     ·exact ah (by assumption)
     ·exact h
structure Rel (w0 : World) (F0 X : Nat → Prop) (n : Fr) (ρ : Nat → Value) (s : ar) (a : Act) (w : World) : Prop where
 defers : a.defers = []
 size : a.tmps.size = n.n
 fixed : ∀ i ∈ n.fx, a.tmps.getD i undef = ρ i
 rel : ∃ F S, b9 w0 F0 X F S s (fun t => a.tmps.getD t undef) w
section
variable {C : cE} {w0 w : World} {F0 X : Nat → Prop} {n : Fr} {ρ : Nat → Value} {s s1 : ar} {a : Act} {av : I} {Q : Exit → Act → World → Prop}
theorem xC {dst : Option Nat} (v : Value) (af : a.tmps.size = n.n) (aj : lL n dst = true) :
  (fun t => (a.put dst v).tmps.getD t undef) = oF (fun t => a.tmps.getD t undef) dst v ∧ (a.put dst v).tmps.size = n.n ∧ (a.put dst v).defers = a.defers := by
 cases dst with
 | none => exact ⟨rfl, af, rfl⟩
 | some d =>
   simp only [lL, Bool.and_eq_true, decide_eq_true_eq] at aj
   refine ⟨?_, by simp [Act.put, af], rfl⟩
   funext t
   simp only [Act.put, oF, dM, Array.getD_eq_getD_getElem?]
   by_cases h : t = d
   ·subst h
    rw [if_pos rfl, Array.getElem?_setIfInBounds_self_of_lt (by omega)]; rfl
   ·rw [if_neg h, Array.getElem?_setIfInBounds_ne (fun e => h e.symm)]
theorem Rel.put {F S} (aj : a.defers = []) (af : a.tmps.size = n.n) (bF : ∀ i ∈ n.fx, a.tmps.getD i undef = ρ i) {aO : World} (aZ : b9 w0 F0 X F S s (fun t => a.tmps.getD t undef) aO) {v : Value} (aQ : lG w0 X F S s (fun t => a.tmps.getD t undef) aO av v)
  {dst : Option Nat} (gj : lL n dst = true) : Rel w0 F0 X n ρ (fin s dst av) (a.put dst v) aO := by
 obtain ⟨aU, ba, aW⟩ := xC (n := n) (dst := dst) v af gj
 obtain ⟨aX, bP⟩ := aZ.fin aQ dst
 refine ⟨aW.trans aj, ba, fun i au => ?_, F, aX, by rw [aU]; exact bP⟩
 rw [congrFun aU i]
 cases dst with
 | none => exact bF i au
 | some d =>
   simp only [lL, Bool.and_eq_true, Bool.not_eq_true', List.contains_eq_mem, decide_eq_false_iff_not] at gj
   have dL : i ≠ d := fun e => gj.2 (by rw [← e]; exact au)
   simp only [oF]
   rw [jX _ _ dL]
   exact bF i au
theorem Rel.skip (h : Rel w0 F0 X n ρ s a w) {dst : Option Nat} (gj : lL n dst = true) : Rel w0 F0 X n ρ (fin s dst (.tuple [])) (a.put dst undef) w := by
 obtain ⟨aj, af, bF, F, S, aZ⟩ := h
 refine Rel.put (av := .tuple []) aj af bF aZ (.inl ⟨rfl, (aM.c0 (d := .tuple []) rfl).2 ⟨?_, ?_⟩⟩) gj
 ·exact ⟨#[], rfl, rfl, fun k d x aA => by simp at aA⟩
 ·rw [aw, bg]; rfl
theorem J6 {F : Nat → Prop} {aC : Nat → Value} {w : World} : ∀ {ds es : List I} {vs us : List Value}, eL w F s aC ds vs → eL w F s aC es us → eL w F s aC (ds ++ es) (vs ++ us) := by
 intro ds
 induction ds with
 | nil => intro es vs us ae ah; rw [eL] at ae; subst ae; exact ah
 | cons d ds ih =>
   intro es vs us ae ah
   rw [eL] at ae
   obtain ⟨v, jW, rfl, bc, bA⟩ := ae
   rw [List.cons_append, List.cons_append, eL]
   exact ⟨v, _, rfl, bc, ih bA ah⟩
theorem J7 {F : Nat → Prop} {aC : Nat → Value} {w : World} : ∀ {ds : List I} {vs : List Value}, eL w F s aC ds vs → ds.length = vs.length ∧ ∀ (i : Nat) (d : I) (v : Value), ds[i]? = some d → vs[i]? = some v → aM w F s aC d v (fun _ => False) := by
 intro ds
 induction ds with
 | nil => intro vs h; rw [eL] at h; subst h; exact ⟨rfl, fun i d v h => by simp at h⟩
 | cons d ds ih =>
   intro vs h
   rw [eL] at h
   obtain ⟨v, jW, rfl, bc, bA⟩ := h
   obtain ⟨ca, cy⟩ := ih bA
   refine ⟨by simp [ca], fun i bQ gU aj aQ => ?_⟩
   cases i with
   | zero => simp at aj aQ; subst aj aQ; exact bc
   | succ i => exact cy i bQ gU (by simpa using aj) (by simpa using aQ)
theorem ns {op : Op} {b1 : gI} (h : oX op = b1) : b1 = .bad ∨ dk op = some b1 := by
 unfold oX at h
 split at h
 ·subst h; right; assumption
 ·exact .inl h.symm
theorem SI {op : Op} {b1 : gI} : dk op ≠ some (.shr b1) := by
 intro h
 unfold dk at h
 split at h <;> (try split at h) <;> (try split at h) <;> (try split at h) <;> (try simp [Option.map_eq_some_iff] at h)
theorem SJ {op : Op} {f : aI} {args : List aI} {u x : Nat} : dk op ≠ some (.mM f args u x) := by
 intro h
 unfold dk at h
 split at h <;> (try split at h) <;> (try split at h) <;> (try split at h) <;> (try simp [Option.map_eq_some_iff] at h)
theorem SK {op : Op} {f : aI} {args : List aI} {us : List Nat} : dk op ≠ some (.kz f args us) := by
 intro h
 unfold dk at h
 split at h <;> (try split at h) <;> (try split at h) <;> (try split at h) <;> (try simp [Option.map_eq_some_iff] at h)
theorem SL {op : Op} {T : TypeId} {x : aI} : dk op ≠ some (.jZ T x) := by
 intro h
 unfold dk at h
 split at h <;> (try split at h) <;> (try split at h) <;> (try split at h) <;> (try simp [Option.map_eq_some_iff] at h)
theorem SM {op : Op} {x : aI} : dk op ≠ some (.rq x) := by
 intro h
 unfold dk at h
 split at h <;> (try split at h) <;> (try split at h) <;> (try split at h) <;> (try simp [Option.map_eq_some_iff] at h)
theorem SN {op : Op} {x : aI} : dk op ≠ some (.qp x) := by
 intro h
 unfold dk at h
 split at h <;> (try split at h) <;> (try split at h) <;> (try split at h) <;> (try simp [Option.map_eq_some_iff] at h)
theorem SO {op : Op} {x : aI} (h : dk op = some (.ct x)) : ∃ cA, op = .move cA ∧ ek cA = some x := by
 unfold dk at h
 split at h <;> (try split at h) <;> (try split at h) <;> (try split at h) <;> (try simp [Option.map_eq_some_iff] at h)
 exact ⟨_, rfl, h⟩
theorem SP {op : Op} {x : aI} (h : dk op = some (.iO x)) : ∃ cA, op = .assign cA ∧ ek cA = some x := by
 unfold dk at h
 split at h <;> (try split at h) <;> (try split at h) <;> (try split at h) <;> (try simp [Option.map_eq_some_iff] at h)
 exact ⟨_, rfl, h⟩
theorem SQ {op : Op} {T b0 : TypeId} {x y : aI} : dk op ≠ some (.n1 T b0 x y) := by
 intro h
 unfold dk at h
 split at h <;> (try split at h) <;> (try split at h) <;> (try split at h) <;> (try simp [Option.map_eq_some_iff] at h)
theorem SR {op : Op} {T b0 : TypeId} {x y : aI} (h : dk op = some (.app T b0 x y)) : ∃ a b, op = .call ⟨.builtin .append, #[a, b], #[T, b0]⟩ ∧ ek a = some x ∧ ek b = some y := by
 cases op with
 | call c =>
   obtain ⟨callee, args, argTypes⟩ := c
   simp only [dk] at h
   split at h
   ·split at h <;> simp at h
   ·split at h <;> simp at h
   ·split at h <;> simp at h
   ·(split at h <;> try split at h) <;> simp at h
   ·(split at h <;> try split at h) <;> simp at h
   ·split at h
    ·rename_i a b xD Ay mO sF
     split at h
     ·rename_i cA kU aq bl
      simp only [Option.some.injEq, gI.app.injEq] at h
      obtain ⟨rfl, rfl, rfl, rfl⟩ := h
      refine ⟨a, b, ?_, aq, bl⟩
      have aU : args = #[a, b] := by apply Array.ext'; exact mO
      have ba : argTypes = #[xD, Ay] := by apply Array.ext'; exact sF
      subst aU ba
      rfl
     ·cases h
    ·cases h
   ·cases h
 | makeFunc fn first cs =>
   cases fn <;> simp only [dk] at h <;> first | (cases h; done) | (split at h <;> simp at h)
 | slice T x dB au h4 =>
   cases h4 <;> simp only [dk] at h <;> first | (cases h; done) | (split at h <;> simp at h)
 | _ => simp only [dk] at h <;> first | (cases h; done) | (simp at h; done) | (split at h <;> simp at h)
theorem b9.alias {F : Nat → Prop} {S : Nat → Nat → Prop} {aC : Nat → Value} {u x : Nat} (h : b9 w0 F0 X F S s aC w) (hu : s u = .hole) (aq : (s x).own = true) (aQ : cL (aC u) = cL (aC x)) (ae : Value.hf (aC u) = true) :
  b9 w0 F0 X F (g3 S u (fun _ => False)) (dM s u (.h x [])) aC w := by
 have fb : dM aC u (aC u) = aC := by funext y; simp only [dM]; split <;> simp_all
 have := h.uE (t := u) (d := .h x []) (v := aC u) rfl (by
  rw [aM]
  intro d aj az
  simp only [I.sub, Option.some.injEq] at aj
  subst aj
  exact ⟨cL (aC x), none, rfl, aQ, ((qt aq).2.2.2.2.2 _).2 ae⟩)
 rwa [fb] at this
theorem lG.less {F : Nat → Prop} {S aX : Nat → Nat → Prop} {aC : Nat → Value} {s1 : ar} {v : Value} (bZ : ∀ u b, aX u b → S u b) (aZ : av.res = true) (h : lG w0 X F S s aC w av v) : lG w0 X F aX s1 aC w av v := by
 rcases h with ⟨ae, ah⟩ | ⟨ae, ah, Sn, aH, a6, bN, cW, cI⟩
 ·refine .inl ⟨ae, ?_⟩
  cases av <;> first
   | (simp [I.res] at aZ; done)
   | (rw [aM]; trivial)
   | (rw [aM] at ah ⊢; exact ah)
 ·exact .inr ⟨ae, ah, Sn, aH, a6, bN, fun u b ad hu => cW u b ad (bZ u b hu), cI⟩
theorem Fq (bz : C.Ok) (h : Rel w0 F0 X n ρ s a w) {o : Oper} {f : aI} {args : List aI} (c6 : dk o.op = some (.call f args)) (aj : lL n o.dst = true) {K : I → ar → Prop} {L : ar → Prop} {next : Act → World → Prop}
  (hw : AB C s f args K) (sJ : ∀ F S b7 aX w aO av s1 v, b9 w0 F0 X F S s (fun t => a.tmps.getD t undef) w → K av s1 → av.res = true → b9 w0 F0 X b7 aX s1 (fun t => a.tmps.getD t undef) aO → lG w0 X b7 aX s1 (fun t => a.tmps.getD t undef) aO av v → (∀ b, F b → b7 b ∧ aO.heap[b]? = w.heap[b]?) →
   ∃ s2 ej, L (fin s2 o.dst av) ∧ b9 w0 F0 X b7 ej s2 (fun t => a.tmps.getD t undef) aO ∧ lG w0 X b7 ej s2 (fun t => a.tmps.getD t undef) aO av v)
  (a_ : ∀ aB da aO, L aB → Rel w0 F0 X n ρ aB da aO → next da aO) : o.wp C.P a w next Q := by
 have oY := h
 obtain ⟨iY, eM, hU, F, S, aZ⟩ := h
 obtain ⟨g, caps, ps, r, ae, gQ, ah, aH, a6, bN, cW, cI, fM⟩ := hw
 obtain ⟨dst, op, ty, pos, after, guard⟩ := o
 simp only at c6 aj sJ
 cases op with
 | call c =>
   obtain ⟨callee, mS, argTypes⟩ := c
   simp only [dk] at c6
   split at c6
   ·split at c6
    ·rename_i xE _ _ SS xs bF oU
     simp only [Option.some.injEq, gI.call.injEq] at c6
     obtain ⟨rfl, rfl⟩ := c6
     obtain ⟨f1, f2⟩ := gB aZ (fun _ => rfl) bF
     rw [ae, aM] at f2
     obtain ⟨arr, f3, f4⟩ := f2
     have sK : execOp a.eval { dst, op := .call { callee := .value xE, args := mS, argTypes }, type := ty, pos, after, guard } = callFunc g ((mS.toList.map a.eval ++ arr.toList).toArray) := by
      have : a.eval xE = .func (.func g) #[] arr := f3
      simp only [execOp, resolve, this, Deferred.ofValue, pure_bind, invoke]
      congr 1
      apply Array.ext'; simp
     unfold Oper.wp
     rw [sK]
     have xF : eL w F s (fun t => a.tmps.getD t undef) (xs.map (aP s) ++ caps) (mS.toList.map a.eval ++ arr.toList) := J6 (Av aZ (fun _ => rfl) _ _ (sD oU)) f4
     rw [← ah] at xF
     obtain ⟨hx, l2⟩ := J7 xF
     have gG : ∀ d ∈ xs.map (aP s) ++ caps, d.plain = true := by
      intro d aj
      rcases List.mem_append.1 aj with aj | aj
      ·obtain ⟨x, aq, rfl⟩ := List.mem_map.1 aj
       exact IL s x fun av e => by
        subst e
        have hm := sD oU
        have : some (aI.c av) ∈ xs.map some := List.mem_map.2 ⟨_, aq, rfl⟩
        rw [← hm] at this
        obtain ⟨o, _, b_⟩ := List.mem_map.1 this
        cases o with
        | const v => simp only [ek, Option.map_eq_some_iff] at b_; obtain ⟨c, ax, e⟩ := b_; cases e; exact Et ax
        | tmp n => simp [ek] at b_
        | func g => simp [ek] at b_
        | global g => simp [ek] at b_
      ·obtain ⟨k, aA⟩ := List.getElem?_of_mem aj
       exact zZ gQ aA
     have Fs := SG (C := C) aZ (ps := ps) (vs := mS.toList.map a.eval ++ arr.toList) (f := g) (r := r) (by simpa using hx)
      (fun i p v az aQ => ⟨gG p.a (by rw [← ah]; exact List.mem_map.2 ⟨p, List.mem_of_getElem? az, rfl⟩), l2 i p.a v (by simp [az]) aQ⟩) aH a6 bN cW cI
     rcases Fs with ⟨dK, bj⟩ | ⟨v, aO, dK, b7, aX, bj, dD, ch⟩
     ·rw [dK, Oper.upon_enter]
      refine Calls.mono bj ?_
      rintro e aO ⟨v, rfl, b7, aX, ca, cy, fy⟩
      obtain ⟨s2, ej, fR, gW, hS⟩ := sJ _ _ _ _ _ _ _ _ _ aZ fM cW ca cy fy
      exact a_ _ _ _ fR (Rel.put iY eM hU gW hS aj)
     ·rw [dK, Oper.upon_value]
      obtain ⟨s2, ej, fR, gW, hS⟩ := sJ _ _ _ _ _ _ _ _ _ aZ fM cW bj dD ch
      exact a_ _ _ _ fR (Rel.put iY eM hU gW hS aj)
    ·cases c6
   ·split at c6
    ·simp only [Option.map_eq_some_iff] at c6; obtain ⟨_, _, c6⟩ := c6; cases c6
    ·cases c6
   ·split at c6
    ·simp only [Option.map_eq_some_iff] at c6; obtain ⟨_, _, c6⟩ := c6; cases c6
    ·cases c6
   iterate 3
    ·split at c6
     ·split at c6 <;> cases c6
     ·cases c6
   ·cases c6
 | makeFunc fn first cs =>
   cases fn <;> simp only [dk] at c6 <;> first | (cases c6; done) | (split at c6 <;> simp at c6)
 | slice T x dB au h4 =>
   cases h4 <;> simp only [dk] at c6 <;> first | (cases c6; done) | (split at c6 <;> simp at c6)
 | _ => simp only [dk] at c6 <;> first | (cases c6; done) | (simp at c6; done) | (split at c6 <;> simp at c6)
theorem SU (bz : C.Ok) (h : Rel w0 F0 X n ρ s a w) {o : Oper} {b1 : gI} (c6 : dk o.op = some b1) (aj : lL n o.dst = true) {K : ar → Prop} {next : Act → World → Prop}
  (hw : n7 C s b1 fun av s1 => K (fin s1 o.dst av)) (a_ : ∀ aB da aO, K aB → Rel w0 F0 X n ρ aB da aO → next da aO) : o.wp C.P a w next Q := by
 have oY := h
 obtain ⟨iY, eM, hU, F, S, aZ⟩ := h
 have plain : ∀ av s1, b3 C s b1 = some (av, s1) → K (fin s1 o.dst av) → o.wp C.P a w next Q := by
  intro av s1 he aA
  obtain ⟨r, aO, v, b7, aX, ae, ah, aH, a6⟩ := JD (a := a) bz aZ (fun _ => rfl) c6 he
  unfold Oper.wp
  rw [ae]
  rcases ah with rfl | ⟨rfl, rfl⟩
  ·exact a_ _ _ _ aA (Rel.put iY eM hU aH a6 aj)
  ·exact a_ _ _ _ aA (Rel.put iY eM hU aH a6 aj)
 cases b1 with
 | shr b1 => exact (SI c6).elim
 | n1 T b0 x y => exact (SQ c6).elim
 | call f args => exact Fq bz ⟨iY, eM, hU, F, S, aZ⟩ c6 aj (K := fun av s1 => K (fin s1 o.dst av)) hw (fun _ _ _ aX _ _ _ s1 _ _ ah _ aH a6 _ => ⟨s1, aX, ah, aH, a6⟩) a_
 | mM f args u x => exact (SJ c6).elim
 | kz f args L => exact (SK c6).elim
 | jZ T x => exact (SL c6).elim
 | rq x => exact (SM c6).elim
 | qp x => exact (SN c6).elim
 | _ =>
   obtain ⟨av, s1, he, aA⟩ := hw
   exact plain av s1 he aA
theorem lG.share {F : Nat → Prop} {S : Nat → Nat → Prop} {aC : Nat → Value} {v : Value} (h : b9 w0 F0 X F S s aC w) (aQ : lG w0 X F S s aC w av v) (bo : av.tree = true) (a_ : ∀ vs, av ≠ .tuple vs) :
  ∃ b7, b9 w0 F0 X b7 S s aC w ∧ lG w0 X b7 S s aC w av.share v := by
 obtain ⟨Sn, hG, hg, iw, ix, nV, sL⟩ : ∃ Sn : Nat → Prop, eN av v ∧ aw w F av (cL v) Sn ∧ (∀ b, Sn b → b < w.heap.size) ∧ (∀ b, Sn b → ¬ F b) ∧ (∀ u b, Sn b → ¬ S u b) ∧ (∀ b, Sn b → X b ∨ w0.heap.size ≤ b) := by
  rcases aQ with ⟨ae, ah⟩ | ⟨_, ah, Sn, aH, a6, bN, cW, cI⟩
  ·rw [aM.c0 bo] at ah
   exact ⟨fun _ => False, ah.1, ah.2, fun _ h => h.elim, fun _ h => h.elim, fun _ _ h => h.elim, fun _ h => h.elim⟩
  ·exact ⟨Sn, ah, aH, a6, bN, cW, cI⟩
 refine ⟨fun b => F b ∨ Sn b, ?_, .inl ⟨Fe av, ?_⟩⟩
 ·exact {
   hL := fun b ad => .inl (h.hL b ad)
   hZ := fun b ad => by
    rcases ad with ad | ad
    ·exact h.hZ b ad
    ·exact .inr (sL b ad)
   ga := fun b ad => ad.elim (h.ga b) (iw b)
   fh := h.fh
   gF := fun t b ad bF => bF.elim (h.gF t b ad) (fun af => nV t b af ad)
   gq := h.gq
   ez := h.ez
   eg := fun t => aM.frame (fun _ _ => rfl) (fun b ad => .inl ad) (fun _ _ _ => rfl) h.eg _ _ _ (fun _ _ => rfl) (h.eg t)
   old := h.old
   size := h.size
   os := h.os
   tape := h.tape
   output := h.output }
 ·by_cases b_ : ∃ o, av = .fg o
  ·obtain ⟨o, rfl⟩ := b_
   rw [I.share, aM]; trivial
  have SV : av.share.tree = true := by cases av <;> first | exact bo | rfl | exact (b_ ⟨_, rfl⟩).elim
  rw [aM.c0 SV]
  exact ⟨Fg a_ hG, aw.shared (fun b ad => .inl ad) av _ Sn (fun b ad => .inr ad) hg⟩
theorem SW {op : Op} {T : TypeId} {x : aI} (h : dk op = some (.dh T x)) : ∃ a, op = .box T a ∧ ek a = some x := by
 cases op with
 | box xD a =>
   simp only [dk, Option.map_eq_some_iff, gI.dh.injEq] at h
   obtain ⟨y, bl, rfl, rfl⟩ := h
   exact ⟨a, rfl, bl⟩
 | _ =>
   exfalso
   unfold dk at h
   split at h <;> (try split at h) <;> (try split at h) <;> (try split at h) <;> (try simp [Option.map_eq_some_iff] at h) <;> contradiction
theorem SX {aO : World} {F b7 : Nat → Prop} {s s1 : ar} {aC : Nat → Value} (bI : ∀ b, F b → b7 b ∧ aO.heap[b]? = w.heap[b]?) : ∀ (n : Nat),
  (∀ (d : I) (v : Value) (S : Nat → Prop), SizeOf.sizeOf d ≤ n → d.gk s = true → d.gk s1 = true → aM w F s aC d v S → aM aO b7 s1 aC d v (fun _ => False)) ∧
  (∀ (ds : List I) (vs : List Value), SizeOf.sizeOf ds ≤ n → I.n6 s ds = true → I.n6 s1 ds = true → eL w F s aC ds vs → eL aO b7 s1 aC ds vs) := by
 intro n
 induction n with
 | zero =>
   refine ⟨fun d v S b8 => ?_, fun ds vs b8 => ?_⟩
   ·cases d <;> simp at b8 <;> omega
   ·cases ds <;> simp at b8 <;> omega
 | succ n ih =>
   refine ⟨fun d v S b8 ca cy h => ?_, fun ds vs b8 ca cy h => ?_⟩
   ·cases d with
    | hole => rw [aM]; trivial
    | h x q =>
      simp only [I.gk, Bool.and_eq_true, List.isEmpty_iff] at ca cy
      obtain ⟨rfl, ca⟩ := ca
      rw [aM] at h ⊢
      obtain ⟨dp, a, f_, hk, ik⟩ := h (s x) (by simp only [I.sub]) (qt ca).1
      simp only [dJ, Option.some.injEq, Prod.mk.injEq, true_and] at f_
      intro d aj _
      simp only [I.sub, Option.some.injEq] at aj
      subst aj
      exact ⟨cL (aC x), none, by simp only [dJ], by rw [hk, ← f_.1], ((qt cy.2).2.2.2.2.2 _).2 (((qt ca).2.2.2.2.2 _).1 ik)⟩
    | az x q => simp [I.gk] at ca
    | ad x k =>
      simp only [I.gk, Bool.not_eq_true'] at ca
      rw [aM] at h ⊢
      obtain ⟨b, cur, e, fr, ae, ah, aH, a6⟩ := h ca
      exact fun _ => ⟨b, cur, e, fr, ae, (bI b ah).1, (bI b ah).2.trans aH, a6⟩
    | fn f cap =>
      simp only [I.gk] at ca cy
      rw [aM] at h ⊢
      obtain ⟨arr, rfl, ax⟩ := h
      exact ⟨arr, rfl, ih.2 _ _ (by simp at b8; omega) ca cy ax⟩
    | _ =>
      simp only [I.gk] at ca
      have bP := (aM.c0 rfl).1 h
      exact (aM.c0 rfl).2 ⟨bP.1, aw.mono (fun b ad => (bI b ad).1) _ _ _ _ (fun _ h => h) (aw.frame (fun b ad => (bI b ad).2) _ _ _ (fun _ h => h.elim) (aw.plain _ _ _ _ ca bP.2))⟩
   ·cases ds with
    | nil => rw [eL] at h ⊢; exact h
    | cons d ds =>
      simp only [I.n6, Bool.and_eq_true] at ca cy
      rw [eL] at h ⊢
      obtain ⟨v, jW, rfl, ae, ah⟩ := h
      simp at b8
      exact ⟨v, jW, rfl, ih.1 _ _ _ (by omega) ca.1 cy.1 ae, ih.2 _ _ (by omega) ca.2 cy.2 ah⟩
theorem SY {s : ar} {d : I} (h : d.gk s = true) : d.plain = true := by
 cases d <;> first | rfl | (simpa [I.gk] using h)
theorem b9.mR {F : Nat → Prop} {aC : Nat → Value} : ∀ (L : List (Nat × I)) (s : ar) (S : Nat → Nat → Prop), b9 w0 F0 X F S s aC w → (∀ p ∈ L, p.2.plain = true ∧ aM w F s aC p.2 (aC p.1) (fun _ => False)) →
  ∃ aX, b9 w0 F0 X F aX (dg.mR s L) aC w ∧ ∀ u b, aX u b → S u b := by
 intro L
 induction L with
 | nil => intro s S h _; exact ⟨S, h, fun _ _ h => h⟩
 | cons p L ih =>
   intro s S h sJ
   obtain ⟨ae, ah⟩ := sJ p (by simp)
   have fb : dM aC p.1 (aC p.1) = aC := by funext u; simp only [dM]; split <;> simp_all
   have aH := h.uE (t := p.1) ae ah
   rw [fb] at aH
   have hY : ∀ x, x ≠ p.1 → (dM s p.1 p.2 x).tree = true → dM s p.1 p.2 x = s x ∧ aC x = aC x := fun x aq _ => ⟨jX _ _ aq, rfl⟩
   obtain ⟨aX, bc, bA⟩ := ih _ _ aH (fun q c4 => ⟨(sJ q (by simp [c4])).1, (aM.void (t := p.1) hY (by rw [mJ]; exact ae) _).1 _ _ _ (Nat.le_refl _) (sJ q (by simp [c4])).2⟩)
   refine ⟨aX, bc, fun u b ad => ?_⟩
   have := bA u b ad
   simp only [g3] at this
   split at this
   ·exact this.elim
   ·exact this
theorem Ft {s : ar} : ∀ {L : List (Nat × I)}, lM s L = true → ∀ p ∈ L, p.2.gk s = true
 | q :: L, ae, p, az => by
   simp only [lM, Bool.and_eq_true] at ae
   rcases List.mem_cons.1 az with rfl | az
   ·exact ae.1
   ·exact Ft ae.2 p az
theorem SZ {s : ar} {us : List Nat} {p : Nat × I} (h : p ∈ jF s us) : p.1 ∈ us ∧ s p.1 = p.2 := by
 obtain ⟨u, hu, rfl⟩ := List.mem_map.1 h
 exact ⟨hu, rfl⟩
theorem S0 (bz : C.Ok) (h : Rel w0 F0 X n ρ s a w) {o : Oper} {b1 : gI} (c6 : oX o.op = b1.base) (aj : lL n o.dst = true) {K : ar → Prop} {next : Act → World → Prop}
  (hw : n7 C s b1 fun av s1 => K (fin s1 o.dst av)) (a_ : ∀ aB da aO, K aB → Rel w0 F0 X n ρ aB da aO → next da aO) : o.wp C.P a w next Q := by
 cases b1 with
 | shr b1 =>
   obtain ⟨av, s1, he, bo, mP, aA⟩ := hw
   rcases ns c6 with c6 | c6
   ·change b1 = .bad at c6
    subst c6; cases he
   obtain ⟨iY, eM, hU, F, S, aZ⟩ := h
   obtain ⟨r, aO, v, b7, aX, ae, ah, aH, a6⟩ := JD (a := a) bz aZ (fun _ => rfl) c6 he
   obtain ⟨xz, cU, eY⟩ := lG.share aH a6 bo mP
   unfold Oper.wp
   rw [ae]
   rcases ah with rfl | ⟨rfl, rfl⟩
   ·exact a_ _ _ _ aA (Rel.put iY eM hU cU eY aj)
   ·exact a_ _ _ _ aA (Rel.put iY eM hU cU eY aj)
 | bad => obtain ⟨av, s1, he, _⟩ := hw; cases he
 | mM f args u x =>
   obtain ⟨aU, ba, hw⟩ := hw
   rcases ns c6 with ad | ad
   ·cases ad
   ·refine Fq bz h ad aj hw ?_ a_
    rintro F S b7 aX w aO av s1 v hG ⟨hg, iw, ix⟩ nV sL xG _
    have Aa := hG.eg u
    rw [aU, aM] at Aa
    obtain ⟨dp, a0, f_, hk, ik⟩ := Aa (s x) (by simp only [I.sub]) (qt ba).1
    simp only [dJ, Option.some.injEq, Prod.mk.injEq, true_and] at f_
    have S1 : ∀ y b, g3 aX u (fun _ => False) y b → aX y b := by
     intro y b ad
     simp only [g3] at ad
     split at ad
     ·exact ad.elim
     ·exact ad
    exact ⟨_, _, ix, sL.alias hg iw (by rw [hk, ← f_.1]) (((qt ba).2.2.2.2.2 _).1 ik), xG.less S1 nV⟩
 | kz f args L =>
   obtain ⟨ba, hw⟩ := hw
   rcases ns c6 with ad | ad
   ·cases ad
   ·refine Fq bz h ad aj hw ?_ a_
    rintro F S b7 aX w aO av s1 v hG ⟨hg, ix⟩ nV sL xG S2
    obtain ⟨ej, bc, bA⟩ := sL.mR (jF s L) s1 aX (fun p az => by
     have dK := (SZ az).2
     have bj := Ft ba p az
     have dD := Ft hg p az
     refine ⟨SY bj, (SX S2 _).1 _ _ (S p.1) (Nat.le_refl _) bj dD ?_⟩
     have := hG.eg p.1
     rw [dK] at this
     exact this)
    exact ⟨_, ej, ix, bc, xG.less bA nV⟩
 | jZ T x =>
   obtain ⟨av, s1, he, aA⟩ := hw
   rcases ns c6 with ad | ad
   ·cases ad
   ·obtain ⟨cA, oZ, aq⟩ := SW ad
    obtain ⟨iY, eM, hU, F, S, aZ⟩ := h
    obtain ⟨dst, op, ty, pos, after, guard⟩ := o
    simp only at oZ aj aA
    subst oZ
    obtain ⟨r, aO, v, b7, aX, ae, ah, aH, a6⟩ : Next C w0 F0 X (fun t => a.tmps.getD t undef) w (execOp a.eval ⟨dst, .box T cA, ty, pos, after, guard⟩) av s1 := (Q2 (T := T) aZ (gB aZ (fun _ => rfl) aq).2 he).next
    unfold Oper.wp
    rw [ae]
    rcases ah with rfl | ⟨rfl, rfl⟩
    ·exact a_ _ _ _ aA (Rel.put iY eM hU aH a6 aj)
    ·exact a_ _ _ _ aA (Rel.put iY eM hU aH a6 aj)
 | qp x =>
   obtain ⟨av, s1, he, aA⟩ := hw
   rcases ns c6 with ad | ad
   ·cases ad
   ·obtain ⟨cA, oZ, aq⟩ := SO ad
    obtain ⟨iY, eM, hU, F, S, aZ⟩ := h
    obtain ⟨dst, op, ty, pos, after, guard⟩ := o
    simp only at oZ aj aA
    subst oZ
    simp only [b3] at he
    obtain ⟨bc, bA⟩ := gB aZ (fun _ => rfl) aq
    obtain ⟨r, aO, v, b7, aX, ae, ah, aH, a6⟩ : Next C w0 F0 X (fun t => a.tmps.getD t undef) w (execOp a.eval ⟨dst, .move cA, ty, pos, after, guard⟩) av s1 := by
     unfold pO at he
     split at he
     ·rename_i y q bl
      rw [bl] at bc bA
      obtain ⟨cu, k0, ca, cy, Sn, fy, eB, gr, dH, jD, _⟩ := pD aZ bc bA he
      exact ⟨_, w, _, F, cu, rfl, .inl rfl, k0, .inr ⟨ca, cy, Sn, fy, eB, gr, dH, jD⟩⟩
     ·simp only [Option.some.injEq, Prod.mk.injEq] at he
      obtain ⟨rfl, rfl⟩ := he
      exact ⟨_, w, _, F, S, rfl, .inl rfl, aZ, .inl ⟨bc, bA⟩⟩
    unfold Oper.wp
    rw [ae]
    rcases ah with rfl | ⟨rfl, rfl⟩
    ·exact a_ _ _ _ aA (Rel.put iY eM hU aH a6 aj)
    ·exact a_ _ _ _ aA (Rel.put iY eM hU aH a6 aj)
 | rq x =>
   obtain ⟨av, s1, he, aA⟩ := hw
   rcases ns c6 with ad | ad
   ·cases ad
   ·obtain ⟨cA, oZ, aq⟩ := SP ad
    obtain ⟨iY, eM, hU, F, S, aZ⟩ := h
    obtain ⟨dst, op, ty, pos, after, guard⟩ := o
    simp only at oZ aj aA
    subst oZ
    simp only [b3, Option.some.injEq, Prod.mk.injEq] at he
    obtain ⟨rfl, rfl⟩ := he
    obtain ⟨bc, bA⟩ := gB aZ (fun _ => rfl) aq
    obtain ⟨r, aO, v, b7, aX, ae, ah, aH, a6⟩ : Next C w0 F0 X (fun t => a.tmps.getD t undef) w (execOp a.eval ⟨dst, .assign cA, ty, pos, after, guard⟩) (aP s x) s := ⟨_, w, _, F, S, rfl, .inl rfl, aZ, .inl ⟨bc, bA⟩⟩
    unfold Oper.wp
    rw [ae]
    rcases ah with rfl | ⟨rfl, rfl⟩
    ·exact a_ _ _ _ aA (Rel.put iY eM hU aH a6 aj)
    ·exact a_ _ _ _ aA (Rel.put iY eM hU aH a6 aj)
 | n1 T b0 x y =>
   obtain ⟨av, s1, he, aA⟩ := hw
   rcases ns c6 with ad | ad
   ·cases ad
   ·obtain ⟨cA, kU, oZ, aq, bl⟩ := SR ad
    obtain ⟨iY, eM, hU, F, S, aZ⟩ := h
    simp only [b3, Option.map_eq_some_iff, Prod.mk.injEq] at he
    obtain ⟨d, hR, rfl, rfl⟩ := he
    obtain ⟨v, aO, b7, aX, ae, ah, aH⟩ := RN (ty := o.type) bz aZ (gB aZ (fun _ => rfl) aq).2 (gB aZ (fun _ => rfl) bl).2 hR
    have sK : execOp a.eval o = (do pure (.value (← Builtin.append_ #[T, b0] o.type #[a.eval cA, a.eval kU]))) := by
     obtain ⟨dst, op, ty, pos, after, guard⟩ := o
     simp only at oZ
     subst oZ
     simp [execOp, resolve, invoke, builtin]
    unfold Oper.wp
    rw [sK]
    simp only [Sem.run_bind, ae, Result.andThen]
    exact a_ _ _ _ aA (Rel.put iY eM hU ah aH aj)
 | _ =>
   rcases ns c6 with ad | ad
   ·cases ad
   ·exact SU bz h ad aj hw a_
end
end Go.dg
