/- Part of a proof that a law returns true for every input. No condition. -/
import Derived.Test.YtbemmmimelklkaaGreatFwC
import Derived.Test.YtbemmmimelklkaaGreatFwA
import Derived.Laws.IdiomStrings
import Derived.Laws.Strings
import Derived.LaidEql
import Derived.WideLaws
namespace Go.c5
section
variable {C : cw} {w0 w : World} {F0 X F : Nat → Prop} {S : Nat → Nat → Prop} {s s1 : ax} {aF : Nat → Value} {av : I}
theorem pT {k : IntKind} {n : Int} {v : Value} {a7 : Nat → Prop} (h : aY w F s aF (.int k n) v a7) : v = .int k n := by
 have bM := (aY.c9 rfl).1 h
 rw [aB, iI bM.1] at bM
 simpa using bM.2
theorem r4 {b : Bool} {v : Value} {a7 : Nat → Prop} (h : aY w F s aF (.bool b) v a7) : v = .bool b := by
 have bM := (aY.c9 rfl).1 h
 rw [aB, iI bM.1] at bM
 simpa using bM.2
theorem o6 {b : List UInt8} {v : Value} {a7 : Nat → Prop} (h : aY w F s aF (.str b) v a7) : v = .string ⟨⟨b⟩⟩ := by
 have bM := (aY.c9 rfl).1 h
 rw [aB, iI bM.1] at bM
 simpa using bM.2
theorem Ih {v : Value} {a7 : Nat → Prop} (h : aY w F s aF .dI v a7) : v = .pointer none := by
 have bM := (aY.c9 rfl).1 h
 rw [aB, iI bM.1] at bM
 simpa using bM.2
theorem pU {v : Value} {a7 : Nat → Prop} (h : aY w F s aF .bu v a7) : v = .slice none 0 0 := by
 have bM := (aY.c9 rfl).1 h
 rw [aB, iI bM.1] at bM
 simpa using bM.2
theorem Ii {v : Value} {a7 : Nat → Prop} (h : aY w F s aF .fo v a7) : ∃ b, v = .bool b := by
 have bM := (aY.c9 rfl).1 h
 rw [aB, iI bM.1] at bM
 simpa using bM.2
theorem of_int (k : IntKind) (n : Int) : aY w F s aF (.int k n) (.int k n) (fun _ => False) := (aY.c9 rfl).2 ⟨rfl, by rw [aB]; rfl⟩
theorem of_bool (b : Bool) : aY w F s aF (.bool b) (.bool b) (fun _ => False) := (aY.c9 rfl).2 ⟨rfl, by rw [aB]; rfl⟩
theorem n9 (b : List UInt8) : aY w F s aF (.str b) (.string ⟨⟨b⟩⟩) (fun _ => False) := (aY.c9 rfl).2 ⟨rfl, by rw [aB]; rfl⟩
theorem Ei (b : Bool) : aY w F s aF .fo (.bool b) (fun _ => False) := (aY.c9 rfl).2 ⟨rfl, by rw [aB]; exact ⟨b, rfl⟩⟩
def iK (op : BinOp) (k : IntKind) (a : Int) (dm : IntKind) (b : Int) : Option I :=
 match op with
 | .shl => if b < 0 then none else some (.int k (k.wrap (a * 2 ^ (min b.toNat k.bits))))
 | .shr => if b < 0 then none else some (.int k (a.fdiv (2 ^ (min b.toNat k.bits))))
 | .add => if k = dm then some (.int k (k.wrap (a + b))) else none
 | .sub => if k = dm then some (.int k (k.wrap (a - b))) else none
 | .mul => if k = dm then some (.int k (k.wrap (a * b))) else none
 | .quo => if k = dm ∧ b ≠ 0 then some (.int k (k.wrap (a.tdiv b))) else none
 | .rem => if k = dm ∧ b ≠ 0 then some (.int k (a.tmod b)) else none
 | .eql => if k = dm then some (.bool (a == b)) else none
 | .neq => if k = dm then some (.bool (a != b)) else none
 | .lss => if k = dm then some (.bool (decide (a < b))) else none
 | .leq => if k = dm then some (.bool (decide (a ≤ b))) else none
 | .gtr => if k = dm then some (.bool (decide (b < a))) else none
 | .geq => if k = dm then some (.bool (decide (b ≤ a))) else none
 | .and => if k = dm then some (.int k (bitsOf .and k a b)) else none
 | .or => if k = dm then some (.int k (bitsOf .or k a b)) else none
 | .xor => if k = dm then some (.int k (bitsOf .xor k a b)) else none
 | .andNot => if k = dm then some (.int k (bitsOf .andNot k a b)) else none
def mT (op : BinOp) (a b : List UInt8) : Option I :=
 match op with
 | .add => if a.length + b.length ≤ 9223372036854775807 then some (.str (a ++ b)) else none
 | .eql => some (.bool (a == b))
 | .neq => some (.bool !(a == b))
 | .lss => some (.bool (Op.bytesLess a b))
 | .leq => some (.bool (Op.bytesLess a b || a == b))
 | .gtr => some (.bool !(Op.bytesLess a b || a == b))
 | .geq => some (.bool !(Op.bytesLess a b))
 | _ => none
def k5 (s : ax) : I → Option (Option Bool)
 | .bu => some (some true)
 | .slice xs => some (if xs = [] then none else some false)
 | .h x q => match I.sub q (s x) with
   | some (.ar _ xs) => some (if xs = [] then none else some false)
   | _ => none
 | _ => none
def k6 (s : ax) : I → Option Bool
 | .dI => some true
 | .ref _ => some false
 | .h x q => match I.sub q (s x) with
   | some (.bd _) => some false
   | _ => none
 | _ => none
def wJ (neg : Bool) : Option Bool → I
 | some b => .bool (b != neg)
 | none => .fo
def aw (C : cw) (s : ax) (op : BinOp) (T : TypeId) (x y : I) : Option I :=
 match x, y with
 | .int k a, .int dm b => iK op k a dm b
 | .str a, .str b => mT op a b
 | .bool a, .bool b => match op, (C.T T).k with
   | .eql, .bool => some (.bool (a == b))
   | .neq, .bool => some (.bool !(a == b))
   | _, _ => none
 | x, .bu => match op, (C.T T).k with
   | .eql, .slice _ => (k5 s x).map (wJ false)
   | .neq, .slice _ => (k5 s x).map (wJ true)
   | _, _ => none
 | x, .dI => match op, (C.T T).k with
   | .eql, .ptr _ => (k6 s x).map fun b => .bool b
   | .neq, .ptr _ => (k6 s x).map fun b => .bool !b
   | _, _ => none
 | _, _ => none
theorem P3 {P : Program} {op : BinOp} {T : TypeId} {k dm : IntKind} {a b : Int} (he : iK op k a dm b = some av) (w : World) :
  ∃ v, (binOp op T (.int k a) (.int dm b)).run P w = .ok v w ∧ aY w F s aF av v (fun _ => False) := by
 unfold iK at he
 cases op <;> simp only at he <;> split at he <;> first | (cases he; done) | skip
 all_goals
  rename_i ay
  simp only [Option.some.injEq] at he
  subst he
 all_goals first
  | (subst ay; simp only [binOp_add, binOp_sub, binOp_mul, binOp_eql, binOp_neq, binOp_lss, binOp_leq, binOp_gtr, binOp_geq, binOp_and, binOp_or, binOp_xor, binOp_andNot, Op.intArith, Op.intBits, Sem.run_pure, Result.ok.injEq, and_true, exists_eq_left']
     first | exact of_int _ _ | exact of_bool _)
  | (obtain ⟨rfl, bc⟩ := ay
     simp only [binOp_quo, binOp_rem, Op.intDiv, bc, if_false, Sem.run_pure, Result.ok.injEq, and_true, exists_eq_left']
     exact of_int _ _)
  | (simp only [binOp_shl, binOp_shr, Op.shift, ay, if_false, Sem.run_pure, Result.ok.injEq, and_true, exists_eq_left']
     exact of_int _ _)
theorem Ej (a : List UInt8) : (⟨⟨a⟩⟩ : ByteArray).toList = a := ByteArray.toList_eq _
theorem P4 (a b : List UInt8) : (⟨⟨a⟩⟩ : ByteArray) ++ (⟨⟨b⟩⟩ : ByteArray) = ⟨⟨a ++ b⟩⟩ := by
 apply ByteArray.ext
 simp [ByteArray.data_append]
theorem P5 {P : Program} {op : BinOp} {T : TypeId} {a b : List UInt8} (he : mT op a b = some av) (w : World) :
  ∃ v, (binOp op T (.string ⟨⟨a⟩⟩) (.string ⟨⟨b⟩⟩)).run P w = .ok v w ∧ aY w F s aF av v (fun _ => False) := by
 have ad : ∀ op, binOp op T (.string ⟨⟨a⟩⟩) (.string ⟨⟨b⟩⟩) = Op.stringOp op ⟨⟨a⟩⟩ ⟨⟨b⟩⟩ := by intro op; cases op <;> rfl
 rw [ad]
 unfold mT at he
 cases op <;> simp only [Option.some.injEq] at he <;> first | (cases he; done) | skip
 case add =>
  split at he
  ·rename_i hl
   simp only [Option.some.injEq] at he; subst he
   have ah : ((ByteArray.size ⟨⟨a⟩⟩ + ByteArray.size ⟨⟨b⟩⟩ : Nat) : Int) ≤ 9223372036854775807 := by
    show ((a.length + b.length : Nat) : Int) ≤ _
    omega
   refine ⟨.string ⟨⟨a ++ b⟩⟩, ?_, n9 _⟩
   simp only [Op.stringOp, IntKind.max_i64]
   rw [if_neg (by omega), P4]
   rfl
  ·cases he
 all_goals
  subst he
  simp only [Op.stringOp, Ej, Sem.run_pure, Result.ok.injEq, and_true, exists_eq_left']
  exact of_bool _
theorem Ek (h : bZ w0 F0 X F S s aF w) {v : Value} {y : Nat} {q : List Nat} (aR : aY w F s aF (.h y q) v (fun _ => False)) {sz : Nat} {xs : List I} (ak : I.sub q (s y) = some (.ar sz xs)) :
  (xs = [] ∧ ∃ a, v = .slice a 0 0) ∨ ∃ b cap cur e fr, v = .slice (some ⟨b, 0, none⟩) xs.length cap ∧ w.heap[b]? = some (.cells cur e fr) ∧ n3 fr cur.size ∧ xs.length ≤ cap ∧ cap ≤ maxLen ∧ cur.size = cap * sz ∧ (∀ d ∈ xs, d.wd = sz) ∧
   ∃ a7, bm w F xs (cur.toList.take (xs.length * sz)) a7 ∧ (∀ c, a7 c → S y c) ∧ S y b := by
 rw [aY] at aR
 obtain ⟨c_, a, bo, bR, cJ⟩ := aR _ ak rfl
 have ah : Value.g5 v = true := cJ
 rw [iI ah] at bR; subst bR
 have aq := h.ee y
 rw [aY.c9 (iz ak (.inl rfl))] at aq
 obtain ⟨gq, cY, e4, hj, k0, cf, cB, fD, eQ, gA⟩ := ctx q (s y) (c1 (aF y)) (S y) none _ aq.2 ak
 rw [k0] at bo
 simp only [Option.some.injEq, Prod.mk.injEq, true_and] at bo
 obtain ⟨rfl, rfl⟩ := bo
 rw [aB] at eQ
 rcases eQ with ⟨rfl, bq, ai⟩ | ⟨b, cap, cur, bh, fr, et, a8, c6, da, cv, cr, iB, kG, n_, oa, eJ, eu⟩
 ·simp at ai; exact .inl ⟨rfl, _, ai⟩
 ·simp at a8
  exact .inr ⟨b, cap, cur, bh, fr, a8, da, cv, cr, iB, kG, n_, et, oa, fun c ay => cB _ (eJ c ay), cB _ c6⟩
theorem Ij (h : bZ w0 F0 X F S s aF w) {v : Value} {y : Nat} {q : List Nat} (aR : aY w F s aF (.h y q) v (fun _ => False)) {d : I} (ak : I.sub q (s y) = some (.bd d)) :
  ∃ b cur e fr, v = .pointer (some ⟨b, 0, none⟩) ∧ w.heap[b]? = some (.cells cur e fr) := by
 rw [aY] at aR
 obtain ⟨c_, a, bo, bR, cJ⟩ := aR _ ak rfl
 have ah : Value.g5 v = true := cJ
 rw [iI ah] at bR; subst bR
 have aq := h.ee y
 rw [aY.c9 (iz ak (.inl rfl))] at aq
 obtain ⟨gq, cY, e4, hj, k0, cf, cB, fD, eQ, gA⟩ := ctx q (s y) (c1 (aF y)) (S y) none _ aq.2 ak
 rw [k0] at bo
 simp only [Option.some.injEq, Prod.mk.injEq, true_and] at bo
 obtain ⟨rfl, rfl⟩ := bo
 rw [aB] at eQ
 obtain ⟨b, cur, bh, fr, et, a8, c6, da, _⟩ := eQ
 simp at a8
 exact ⟨b, cur, bh, fr, a8, da⟩
theorem Ik {P : Program} {T e : TypeId} (bs : P.underlying T = some (.slice e)) (w : World) : ∀ d, (Op.equalIn (d + 1) T (.slice none 0 0) (.slice none 0 0)).run P w = .ok true w ∧
  ∀ a n c, (Op.equalIn (d + 1) T (.slice (some a) n c) (.slice none 0 0)).run P w = .ok false w := by
 intro d
 refine ⟨by simp [Op.equalIn, run_underlying bs], fun a n c => by simp [Op.equalIn, run_underlying bs]⟩
theorem Il {P : Program} {T e : TypeId} (bs : P.underlying T = some (.pointer e)) (w : World) : ∀ d, (Op.equalIn (d + 1) T (.pointer none) (.pointer none)).run P w = .ok true w ∧
  ∀ a, (Op.equalIn (d + 1) T (.pointer (some a)) (.pointer none)).run P w = .ok false w := by
 intro d
 refine ⟨by simp [Op.equalIn, run_underlying bs], fun a => by simp [Op.equalIn, run_underlying bs]⟩
theorem Im {P : Program} {T : TypeId} (bs : P.underlying T = some .bool) (w : World) : ∀ d a b, (Op.equalIn (d + 1) T (.bool a) (.bool b)).run P w = .ok (a == b) w := by
 intro d a b
 simp [Op.equalIn, run_underlying bs]
theorem Io (h : bZ w0 F0 X F S s aF w) {x : I} {v : Value} (aR : aY w F s aF x v (fun _ => False)) {T e : TypeId} {r : Option Bool} (bb : k5 s x = some r) (bs : C.P.underlying T = some (.slice e)) :
  ∃ b, (Op.equal T v (.slice none 0 0)).run C.P w = .ok b w ∧ (∀ fV, r = some fV → fV = b) ∧ Value.g5 v = true ∧ ∃ a n c, v = .slice a n c := by
 have a1 := fun a n c => (Ik bs w 9999).2 a n c
 have gB := (Ik bs w 9999).1
 cases x with
 | bu =>
   have := pU aR; subst this
   simp [k5] at bb; subst bb
   exact ⟨true, gB, by simp, rfl, _, _, _, rfl⟩
 | slice xs =>
   have bM := (aY.c9 rfl).1 aR
   rw [aB, iI bM.1] at bM
   simp only [k5, Option.some.injEq] at bb
   obtain ⟨_, ⟨rfl, a, c, ai, _, r5⟩ | ⟨b, o, cap, eH, sz, ai, aN⟩⟩ := bM
   ·simp at ai bb; subst ai; subst bb
    cases a with
    | none =>
      have := r5 rfl; subst this
      exact ⟨true, gB, by simp, rfl, _, _, _, rfl⟩
    | some a => exact ⟨false, a1 _ _ _, by simp, rfl, _, _, _, rfl⟩
   ·simp at ai; subst ai
    refine ⟨false, a1 _ _ _, ?_, rfl, _, _, _, rfl⟩
    subst bb
    split <;> simp
 | h y q =>
   simp only [k5] at bb
   split at bb
   ·rename_i sz xs ak
    simp only [Option.some.injEq] at bb
    rcases Ek h aR ak with ⟨rfl, a, rfl⟩ | ⟨b, cap, cur, bh, fr, rfl, _⟩
    ·simp at bb; subst bb
     cases a with
     | none => exact ⟨true, gB, by simp, rfl, _, _, _, rfl⟩
     | some a => exact ⟨false, a1 _ _ _, by simp, rfl, _, _, _, rfl⟩
    ·refine ⟨false, a1 _ _ _, ?_, rfl, _, _, _, rfl⟩
     subst bb
     split <;> simp
   ·cases bb
 | _ => simp [k5] at bb
theorem Ip (h : bZ w0 F0 X F S s aF w) {x : I} {v : Value} (aR : aY w F s aF x v (fun _ => False)) {T e : TypeId} {r : Bool} (bb : k6 s x = some r) (bs : C.P.underlying T = some (.pointer e)) :
  (Op.equal T v (.pointer none)).run C.P w = .ok r w ∧ ∃ a, v = .pointer a := by
 have a1 := fun a => (Il bs w 9999).2 a
 have gB := (Il bs w 9999).1
 cases x with
 | dI =>
   have := Ih aR; subst this
   simp [k6] at bb; subst bb
   exact ⟨gB, _, rfl⟩
 | ref d =>
   have bM := (aY.c9 rfl).1 aR
   rw [aB, iI bM.1] at bM
   simp [k6] at bb; subst bb
   obtain ⟨_, b, o, eH, ai, _⟩ := bM
   simp at ai; subst ai
   exact ⟨a1 _, _, rfl⟩
 | h y q =>
   simp only [k6] at bb
   split at bb
   ·rename_i d ak
    simp only [Option.some.injEq] at bb; subst bb
    obtain ⟨b, cur, e, fr, rfl, _⟩ := Ij h aR ak
    exact ⟨a1 _, _, rfl⟩
   ·cases bb
 | _ => simp [k6] at bb
theorem P6 (bI : C.Ok) (h : bZ w0 F0 X F S s aF w) {op : BinOp} {T : TypeId} {x y : I} {j2 jD : Value} (P7 P8 : Operand) (aq : aY w F s aF x j2 (fun _ => False)) (bD : aY w F s aF y jD (fun _ => False))
  (he : aw C s op T x y = some av) : Good C w0 F0 X aF w (do eqGuard op T P7 P8 j2 jD; binOp op T j2 jD) av s := by
 unfold aw at he
 split at he
 ·have := pT aq; subst this
  have := pT bD; subst this
  obtain ⟨v, af, ai⟩ := P3 (P := C.P) (T := T) he w
  refine Good.same h (v := v) ?_ ?_ ai
  ·rw [eqGuard_at_int]; exact af
  ·revert he; unfold iK; cases op <;> simp only <;> split <;> simp <;> (rintro rfl; rfl)
 ·have := o6 aq; subst this
  have := o6 bD; subst this
  obtain ⟨v, af, ai⟩ := P5 (P := C.P) (T := T) he w
  refine Good.same h (v := v) ?_ ?_ ai
  ·rw [eqGuard_at_string]; exact af
  ·revert he; unfold mT; cases op <;> simp only <;> (try split) <;> simp <;> (try (rintro rfl; rfl))
 ·have := r4 aq; subst this
  have := r4 bD; subst this
  split at he
  ·rename_i aD
   simp only [Option.some.injEq] at he; subst he
   obtain ⟨i, d, z, a1, bh, a8, c6, da, cv, cr⟩ := bI.info (ha aD (by simp))
   rw [aD] at cr
   have := H8 cr; subst this
   refine Good.same h ?_ rfl (of_bool _)
   rw [eqGuard_at_bool]
   simp [binOp, Op.equal, Op.maxDepth, Im cv w 9999]
  ·rename_i aD
   simp only [Option.some.injEq] at he; subst he
   obtain ⟨i, d, z, a1, bh, a8, c6, da, cv, cr⟩ := bI.info (ha aD (by simp))
   rw [aD] at cr
   have := H8 cr; subst this
   refine Good.same h ?_ rfl (of_bool _)
   rw [eqGuard_at_bool]
   simp [binOp, Op.equal, Op.maxDepth, Im cv w 9999]
  ·cases he
 ·have := pU bD; subst this
  split at he
  ·rename_i e aD
   simp only [Option.map_eq_some_iff] at he
   obtain ⟨r, bb, rfl⟩ := he
   obtain ⟨i, d, z, a1, bh, a8, c6, da, cv, cr⟩ := bI.info (ha aD (by simp))
   rw [aD] at cr
   have := k4 cr; subst this
   obtain ⟨b, af, ai, aN, a0, b2, mR, rfl⟩ := Io h aq bb cv
   refine Good.same h (v := .bool b) ?_ ?_ ?_
   ·rw [eqGuard_at_slice]
    simp [binOp, af]
   ·cases r <;> rfl
   ·cases r with
    | none => exact Ei b
    | some fV => have := ai fV rfl; subst this; simp only [wJ, Bool.bne_false]; exact of_bool _
  ·rename_i e aD
   simp only [Option.map_eq_some_iff] at he
   obtain ⟨r, bb, rfl⟩ := he
   obtain ⟨i, d, z, a1, bh, a8, c6, da, cv, cr⟩ := bI.info (ha aD (by simp))
   rw [aD] at cr
   have := k4 cr; subst this
   obtain ⟨b, af, ai, aN, a0, b2, mR, rfl⟩ := Io h aq bb cv
   refine Good.same h (v := .bool !b) ?_ ?_ ?_
   ·rw [eqGuard_at_slice]
    simp [binOp, af]
   ·cases r <;> rfl
   ·cases r with
    | none => exact Ei _
    | some fV => have := ai fV rfl; subst this; simp only [wJ, Bool.bne_true]; exact of_bool _
  ·cases he
 ·have := Ih bD; subst this
  split at he
  ·rename_i e aD
   simp only [Option.map_eq_some_iff] at he
   obtain ⟨r, bb, rfl⟩ := he
   obtain ⟨i, d, z, a1, bh, a8, c6, da, cv, cr⟩ := bI.info (ha aD (by simp))
   rw [aD] at cr
   have := H9 cr; subst this
   obtain ⟨af, a0, rfl⟩ := Ip h aq bb cv
   refine Good.same h (v := .bool r) ?_ rfl (of_bool _)
   rw [eqGuard_at_pointer]
   simp [binOp, af]
  ·rename_i e aD
   simp only [Option.map_eq_some_iff] at he
   obtain ⟨r, bb, rfl⟩ := he
   obtain ⟨i, d, z, a1, bh, a8, c6, da, cv, cr⟩ := bI.info (ha aD (by simp))
   rw [aD] at cr
   have := H9 cr; subst this
   obtain ⟨af, a0, rfl⟩ := Ip h aq bb cv
   refine Good.same h (v := .bool !r) ?_ rfl (of_bool _)
   rw [eqGuard_at_pointer]
   simp [binOp, af]
  ·cases he
 ·cases he
end
section
variable {C : cw} {w0 w : World} {F0 X F : Nat → Prop} {S : Nat → Nat → Prop} {s s1 : ax} {aF : Nat → Value} {av : I}
def un (op : UnOp) (x : I) : Option I :=
 match op, x with
 | .not, .bool b => some (.bool !b)
 | .not, .fo => some .fo
 | .neg, .int k n => some (.int k (k.wrap (0 - n)))
 | _, _ => none
theorem P9 (h : bZ w0 F0 X F S s aF w) {op : UnOp} {x : I} {v : Value} (aR : aY w F s aF x v (fun _ => False)) (he : un op x = some av) : Good C w0 F0 X aF w (Op.unary op v) av s := by
 unfold un at he
 split at he <;> first | (cases he; done) | (simp only [Option.some.injEq] at he; subst he)
 ·have := r4 aR; subst this
  exact Good.same h rfl rfl (of_bool _)
 ·obtain ⟨b, rfl⟩ := Ii aR
  exact Good.same h rfl rfl (Ei _)
 ·have := pT aR; subst this
  exact Good.same h rfl rfl (of_int _ _)
def dT (s : ax) (x : I) : Option I :=
 match x with
 | .ref d => some (.ref d)
 | .fn f c => some (.fn f c)
 | .h y q => match I.sub q (s y) with
   | some (.bd _) => some (.h y q)
   | _ => none
 | _ => none
theorem P_ {d : I} {v : Value} {a7 : Nat → Prop} (h : aY w F s aF (.ref d) v a7) : ∃ b o eH, v = .pointer (some ⟨b, o, none⟩) ∧ F b ∧ Rd w b o eH ∧ aB w F d eH (fun _ => False) := by
 have bM := (aY.c9 rfl).1 h
 rw [aB, iI bM.1] at bM
 obtain ⟨_, b, o, eH, af, ai, aN, bk⟩ := bM
 simp at af; subst af
 exact ⟨b, o, eH, rfl, ai, aN, bk⟩
theorem Qa (h : bZ w0 F0 X F S s aF w) {x : I} {v : Value} (aR : aY w F s aF x v (fun _ => False)) (he : dT s x = some av) :
  av = x ∧ x.plain = true ∧ ((∃ a, v = .pointer (some a)) ∨ ∃ f c, v = .func (.func f) #[] c) := by
 unfold dT at he
 split at he
 ·simp only [Option.some.injEq] at he; subst he
  obtain ⟨b, o, eH, rfl, _⟩ := P_ aR
  exact ⟨rfl, rfl, .inl ⟨_, rfl⟩⟩
 ·simp only [Option.some.injEq] at he; subst he
  rw [aY] at aR
  obtain ⟨arr, rfl, _⟩ := aR
  exact ⟨rfl, rfl, .inr ⟨_, _, rfl⟩⟩
 ·split at he
  ·rename_i d ak
   simp only [Option.some.injEq] at he; subst he
   obtain ⟨b, cur, e, fr, rfl, _⟩ := Ij h aR ak
   exact ⟨rfl, rfl, .inl ⟨_, rfl⟩⟩
  ·cases he
 ·cases he
def ex (s : ax) (x : I) (k : Nat) : Option I :=
 match x with
 | .tuple ds => match ds[k]? with
   | some d => if d.plain = true then some d else none
   | none => none
 | .h y q => match I.sub q (s y) with
   | some (.tuple ds) => match ds[k]? with
     | some d => if I.dO ds = true then none else some (if d.plain then d else .h y (q ++ [k]))
     | none => none
   | _ => none
 | _ => none
theorem Iq : ∀ (vs : List Value) (k : Nat) (x : Value) (ds : List I), vs[k]? = some x → vs.length = ds.length → (∀ (j : Nat) (d : I) (y : Value), ds[j]? = some d → vs[j]? = some y → (h_ y).length = d.wd) →
  ∃ l r, vs.flatMap h_ = l ++ (h_ x ++ r) ∧ l.length = I.eD (ds.take k)
 | [], k, x, ds, h, _, _ => by simp at h
 | v :: vs, 0, x, ds, h, hl, hw => by
   simp at h; subst h
   exact ⟨[], vs.flatMap h_, by simp, by simp [I.eD]⟩
 | v :: vs, k + 1, x, d :: ds, h, hl, hw => by
   obtain ⟨l, r, a1, bh⟩ := Iq vs k x ds (by simpa using h) (by simpa using hl) (fun j d y af ai => hw (j + 1) d y (by simpa using af) (by simpa using ai))
   refine ⟨h_ v ++ l, r, by simp [a1], ?_⟩
   have := hw 0 d v (by simp) (by simp)
   simp [I.eD, bh, this]
 | v :: vs, k + 1, x, [], h, hl, hw => by simp at hl
theorem Qb {d : I} {v : Value} (h : iy d v) (_hd : ∀ vs, d ≠ .tuple vs) : c1 v = h_ v := by
 cases d with
 | agg aC => obtain ⟨arr, rfl⟩ := h; rfl
 | _ =>
   have af : Value.g5 v = true := h
   cases v <;> first | rfl | (simp [Value.g5] at af)
theorem Qc {d : I} {v : Value} (h : iy d v) (ak : ∀ vs, d ≠ .tuple vs) : eI d v := by
 cases d with
 | tuple vs => exact (ak _ rfl).elim
 | _ => exact h
theorem Qd (h : bZ w0 F0 X F S s aF w) {x : I} {v : Value} {k : Nat} (aR : aY w F s aF x v (fun _ => False)) (he : ex s x k = some av) : Good C w0 F0 X aF w (Instr.extract v k) av s := by
 have pick : ∀ (ds : List I) (d : I) (arr : Array Value), ds[k]? = some d → (arr.size = ds.length ∧ ∀ (k : Nat) (d : I) (x : Value), ds[k]? = some d → arr[k]? = some x → iy d x ∧ (∀ vs, d ≠ .tuple vs) ∧ (h_ x).length = d.wd) →
   ∃ x, arr[k]? = some x ∧ eI d x ∧ ((c1 (.tuple arr)).drop (I.eD (ds.take k))).take d.wd = c1 x := by
  intro ds d arr ak ⟨bY, nu⟩
  have fi : k < arr.size := by rw [bY]; exact (List.getElem?_eq_some_iff.1 ak).1
  have aq : arr[k]? = some arr[k] := Array.getElem?_eq_getElem fi
  obtain ⟨bo, bR, cJ⟩ := nu k d _ ak aq
  obtain ⟨l, r, a1, bh⟩ := Iq arr.toList k arr[k] ds (by simp [fi]) (by simpa using bY) (fun j d y af ai => (nu j d y af (by simpa using ai)).2.2)
  refine ⟨_, aq, Qc bo bR, ?_⟩
  rw [Qb bo bR]
  simp only [c1]
  rw [a1]
  exact tP l _ r _ _ bh cJ
 unfold ex at he
 split at he
 ·rename_i ds
  split at he
  ·rename_i d ak
   split at he
   ·rename_i aA
    simp only [Option.some.injEq] at he; subst he
    have bM := (aY.c9 rfl).1 aR
    obtain ⟨⟨arr, rfl, bY⟩, ic⟩ := bM
    obtain ⟨x, aq, ah, ay⟩ := pick ds d arr ak bY
    have bb : (Instr.extract (.tuple arr) k).run C.P w = .ok x w := by simp [Instr.extract, aq]
    rw [aB] at ic
    obtain ⟨cH, gp, cI, cy, kf, e, h8, gT, hs, h9, hk, ma⟩ := bm.pick ds _ _ k d ic ak
    rw [e, tP cH gp cI _ _ h8 (aB.length _ _ _ hk)] at ay
    by_cases bs : d.tree = true
    ·exact Good.same h bb aA ((aY.c9 bs).2 ⟨ah, by rw [← ay]; exact aB.plain _ _ _ _ aA hk⟩)
    ·cases d <;> first | exact (bs rfl).elim | (rw [aB] at hk; exact hk.elim) | exact Good.same h bb rfl (by rw [aY]; trivial)
   ·cases he
  ·cases he
 ·rename_i y q
  split at he
  ·rename_i ds ak
   split at he
   ·rename_i d aD
    split at he
    ·cases he
    ·rename_i gz
     simp only [Option.some.injEq] at he
     have gz : (I.tuple ds).plain = false := by simpa [I.plain] using gz
     rw [aY] at aR
     obtain ⟨c_, a, bo, bR, cJ⟩ := aR _ ak gz
     obtain ⟨arr, rfl, bY⟩ := cJ
     obtain ⟨x, aq, ah, ay⟩ := pick ds d arr aD bY
     have bb : (Instr.extract (.tuple arr) k).run C.P w = .ok x w := by simp [Instr.extract, aq]
     have bD := h.ee y
     rw [aY.c9 (iz ak (.inl gz))] at bD
     obtain ⟨gq, cY, e4, hj, k0, cf, cB, fD, eQ, gA⟩ := ctx q (s y) (c1 (aF y)) (S y) none _ bD.2 ak
     rw [k0] at bo
     simp only [Option.some.injEq, Prod.mk.injEq, true_and] at bo
     obtain ⟨rfl, rfl⟩ := bo
     rw [bR] at ay
     split at he
     ·rename_i aA
      subst he
      rw [aB] at eQ
      obtain ⟨cH, gp, cI, cy, kf, e, h8, gT, hs, h9, hk, ma⟩ := bm.pick ds _ _ k d eQ aD
      rw [e, tP cH gp cI _ _ h8 (aB.length _ _ _ hk)] at ay
      by_cases bs : d.tree = true
      ·exact Good.same h bb aA ((aY.c9 bs).2 ⟨ah, by rw [← ay]; exact aB.plain _ _ _ _ aA hk⟩)
      ·cases d <;> first | exact (bs rfl).elim | (rw [aB] at hk; exact hk.elim) | exact Good.same h bb rfl (by rw [aY]; trivial)
     ·subst he
      refine Good.same h bb rfl ?_
      rw [aY]
      intro d2 jC H4
      rw [zL w q _ _ _ _ _ _ [k] k0]
      rw [zK _ _ _ _ ak] at jC
      simp only [I.sub, aD, Option.some.injEq] at jC
      subst jC
      simp only [dy, aD]
      exact ⟨_, _, rfl, ay.symm, ah⟩
   ·cases he
  ·cases he
 ·cases he
end
section
variable {C : cw} {w0 w : World} {F0 X F : Nat → Prop} {S : Nat → Nat → Prop} {s s1 : ax} {aF : Nat → Value} {av : I}
def idx (C : cw) (T : TypeId) (x i : I) : Option I :=
 match (C.T T).k, x, i with
 | .str, .str l, .int _ n => if 0 ≤ n then (match l[n.toNat]? with | some b => some (.int .u8 b.toNat) | none => none) else none
 | _, _, _ => none
theorem Qe (l : List UInt8) (n : Nat) : (⟨⟨l⟩⟩ : ByteArray)[n]? = l[n]? := by
 by_cases h : n < l.length
 ·have bM : n < (⟨⟨l⟩⟩ : ByteArray).size := h
  rw [List.getElem?_eq_getElem h, getElem?_pos (⟨⟨l⟩⟩ : ByteArray) n bM]
  rfl
 ·have bM : ¬ n < (⟨⟨l⟩⟩ : ByteArray).size := h
  rw [List.getElem?_eq_none (by omega), getElem?_neg (⟨⟨l⟩⟩ : ByteArray) n bM]
theorem Qf (bI : C.Ok) (h : bZ w0 F0 X F S s aF w) {T : TypeId} {x i : I} {v tX : Value} (aR : aY w F s aF x v (fun _ => False)) (ao : aY w F s aF i tX (fun _ => False)) (he : idx C T x i = some av) :
  Good C w0 F0 X aF w (Instr.index T v tX) av s := by
 unfold idx at he
 split at he
 ·rename_i l k n aD
  have := o6 aR; subst this
  have := pT ao; subst this
  obtain ⟨i, d, z, a1, bh, a8, c6, da, cv, cr⟩ := bI.info (ha aD (by simp))
  rw [aD] at cr
  have := qL cr; subst this
  split at he
  ·rename_i bl
   split at he
   ·rename_i b ad
    simp only [Option.some.injEq] at he; subst he
    refine Good.same h ?_ rfl (of_int _ _)
    simp [Instr.index, asIntOf, run_underlying cv, bl, Qe, ad]
   ·cases he
  ·cases he
 ·cases he
def lenOf (s : ax) : I → Option Nat
 | .str l => some l.length
 | .bu => some 0
 | .slice xs => some xs.length
 | .h y q => match I.sub q (s y) with
   | some (.ar _ xs) => some xs.length
   | _ => none
 | _ => none
def lN (C : cw) (s : ax) (T : TypeId) (x : I) : Option I :=
 match (C.T T).k, x with
 | .str, .str l => some (.int .i64 l.length)
 | .slice _, .bu => some (.int .i64 0)
 | .slice _, .slice xs => some (.int .i64 xs.length)
 | .slice _, .h y q => match I.sub q (s y) with
   | some (.ar _ xs) => some (.int .i64 xs.length)
   | _ => none
 | _, _ => none
theorem zV {xs : List I} {v : Value} {a7 : Nat → Prop} (h : aY w F s aF (.slice xs) v a7) : (xs = [] ∧ ∃ a c, v = .slice a 0 c ∧ c ≤ maxLen ∧ (a = none → c = 0)) ∨
  ∃ b o cap eH sz, v = .slice (some ⟨b, o, none⟩) xs.length cap ∧ F b ∧ xs.length ≤ cap ∧ cap ≤ maxLen ∧ (∀ d ∈ xs, d.wd = sz) ∧ Rd w b o eH ∧ bm w F xs eH (fun _ => False) := by
 have bM := (aY.c9 rfl).1 h
 rw [aB, iI bM.1] at bM
 obtain ⟨_, ⟨rfl, a, c, ai, aN⟩ | ⟨b, o, cap, eH, sz, ai, aN⟩⟩ := bM
 ·simp at ai; exact .inl ⟨rfl, a, c, ai, aN⟩
 ·simp at ai; exact .inr ⟨b, o, cap, eH, sz, ai, aN⟩
theorem Qg (bI : C.Ok) (h : bZ w0 F0 X F S s aF w) {T ty : TypeId} {x : I} {v : Value} (aR : aY w F s aF x v (fun _ => False)) (he : lN C s T x = some av) :
  Good C w0 F0 X aF w (Builtin.len_ #[T] ty #[v]) av s := by
 unfold lN at he
 split at he
 ·rename_i l aD
  have := o6 aR; subst this
  obtain ⟨i, d, z, a1, bh, a8, c6, da, cv, cr⟩ := bI.info (ha aD (by simp))
  rw [aD] at cr
  have := qL cr; subst this
  simp only [Option.some.injEq] at he; subst he
  refine Good.same h ?_ rfl (of_int _ _)
  simp [Builtin.len_, run_underlying cv, goInt]
  rfl
 ·rename_i e aD
  have := pU aR; subst this
  obtain ⟨i, d, z, a1, bh, a8, c6, da, cv, cr⟩ := bI.info (ha aD (by simp))
  rw [aD] at cr
  have := k4 cr; subst this
  simp only [Option.some.injEq] at he; subst he
  refine Good.same h ?_ rfl (of_int _ _)
  simp [Builtin.len_, run_underlying cv, goInt]
 ·rename_i e xs aD
  obtain ⟨i, d, z, a1, bh, a8, c6, da, cv, cr⟩ := bI.info (ha aD (by simp))
  rw [aD] at cr
  have := k4 cr; subst this
  simp only [Option.some.injEq] at he; subst he
  refine Good.same h ?_ rfl (of_int _ _)
  rcases zV aR with ⟨rfl, a, c, rfl, _⟩ | ⟨b, o, cap, eH, sz, rfl, _⟩ <;> simp [Builtin.len_, run_underlying cv, goInt]
 ·rename_i e y q aD
  split at he
  ·rename_i sz xs ak
   obtain ⟨i, d, z, a1, bh, a8, c6, da, cv, cr⟩ := bI.info (ha aD (by simp))
   rw [aD] at cr
   have := k4 cr; subst this
   simp only [Option.some.injEq] at he; subst he
   refine Good.same h ?_ rfl (of_int _ _)
   rcases Ek h aR ak with ⟨rfl, _, rfl⟩ | ⟨b, cap, cur, bh, fr, rfl, _⟩ <;> simp [Builtin.len_, run_underlying cv, goInt]
  ·cases he
 ·cases he
def bytesOf : List I → Option (List UInt8)
 | [] => some []
 | .int .u8 n :: r => if 0 ≤ n ∧ n < 256 then (bytesOf r).map (UInt8.ofNat n.toNat :: ·) else none
 | _ => none
def kj (b : UInt8) : I := .int .u8 b.toNat
theorem Qh (l : List UInt8) : bytesOf (l.map kj) = some l := by
 induction l with
 | nil => rfl
 | cons b l ih =>
   have ad : b.toNat < 256 := b.toNat_lt
   simp only [List.map_cons, kj, bytesOf, Int.toNat_natCast]
   rw [if_pos (by omega), ih]
   simp
theorem El : ∀ (xs : List I) (l : List UInt8) (cs : List Value) (a7 : Nat → Prop), bytesOf xs = some l → bm w F xs cs a7 → cs = l.map (fun b => .int .u8 (b.toNat : Int)) ∧ xs.length = l.length
 | [], l, cs, a7, h, bb => by simp [bytesOf] at h; subst h; rw [bm] at bb; subst bb; exact ⟨rfl, rfl⟩
 | x :: xs, l, cs, a7, h, bb => by
   unfold bytesOf at h
   split at h
   ·rename_i e; cases e
   ·rename_i n r e
    simp only [List.cons.injEq] at e
    obtain ⟨rfl, rfl⟩ := e
    split at h
    ·rename_i bl
     simp only [Option.map_eq_some_iff] at h
     obtain ⟨ev, af, rfl⟩ := h
     rw [bm] at bb
     obtain ⟨cH, cI, cy, et, rfl, ai, aN, _⟩ := bb
     obtain ⟨rfl, bk⟩ := El xs ev cI et af aN
     rw [aB] at ai; subst ai
     refine ⟨?_, by simp [bk]⟩
     simp only [List.map_cons, List.cons_append, List.nil_append, List.cons.injEq, and_true, Value.int.injEq, true_and]
     simp only [UInt8.toNat_ofNat']
     omega
    ·cases h
   ·cases h
theorem bZ.wK (h : bZ w0 F0 X F S s aF w) {aP : World} {sz cap : Nat} {xs : List I} {cur : Array Value} {e : TypeId} {fr : Nat × Nat} {Sn : Nat → Prop}
  (hw : aP.heap = w.heap.push (.cells cur e fr)) (af : aP.os = w.os) (ai : aP.tape = w.tape) (aN : aP.output = w.output)
  (bJ : n3 fr cur.size) (hle : xs.length ≤ cap) (hm : cap ≤ maxLen) (eV : cur.size = cap * sz) (mb : ∀ d ∈ xs, d.wd = sz) (aR : bm w F xs (cur.toList.take (xs.length * sz)) Sn)
  (fi : ∀ b, Sn b → b < w.heap.size) (bH : ∀ b, Sn b → ¬ F b) (bS : ∀ u b, Sn b → ¬ S u b) (bc : ∀ b, Sn b → X b ∨ w0.heap.size ≤ b) :
  bZ w0 F0 X F S s aF aP ∧ k3 w0 X F S s aF aP (.ar sz xs) (.slice (some ⟨w.heap.size, 0, none⟩) xs.length cap) := by
 have hold : ∀ b, b < w.heap.size → aP.heap[b]? = w.heap[b]? := by
  intro b ad
  rw [hw, Array.getElem?_push, if_neg (by omega)]
 have axm : aP.heap.size = w.heap.size + 1 := by rw [hw]; simp
 refine ⟨h.grow hold (by omega) af ai aN, .inr ⟨rfl, rfl, fun b => b = w.heap.size ∨ Sn b, ?_, ?_, ?_, ?_, ?_⟩⟩
 ·simp only [c1, h_]
  rw [aB]
  refine .inr ⟨w.heap.size, cap, cur, e, fr, Sn, rfl, .inl rfl, ?_, bJ, hle, hm, eV, mb, ?_, fun c ay => .inr ay, fun ay => Nat.lt_irrefl _ (fi _ ay)⟩
  ·rw [hw]; simp
  ·exact bm.frame (fun b ad => hold b (h.gh b ad)) _ _ _ (fun b ad => hold b (fi b ad)) aR
 ·rintro b (rfl | ad)
  ·omega
  ·have := fi b ad; omega
 ·rintro b (rfl | ad) wI
  ·exact Nat.lt_irrefl _ (h.gh _ wI)
  ·exact bH b ad wI
 ·rintro u b (rfl | ad) hu
  ·exact Nat.lt_irrefl _ (h.fc _ _ hu)
  ·exact bS u b ad hu
 ·rintro b (rfl | ad)
  ·exact .inr h.size
  ·exact bc b ad
def fW (C : cw) (s : ax) (A B : TypeId) (x : I) : Option I :=
 if (C.T A).ok = true then
 match (C.T B).k, x with
 | .int k, .int _ n => some (.int k (k.wrap n))
 | .str, .str l => match (C.T A).k with
   | .str => some (.str l)
   | _ => none
 | .str, x => match (C.T A).k with
   | .slice e => match (C.T e).k with
     | .int .u8 => match x with
       | .bu => some (.str [])
       | .slice xs => (bytesOf xs).map .str
       | .h y q => match I.sub q (s y) with
         | some (.ar 1 xs) => (bytesOf xs).map .str
         | _ => none
       | _ => none
     | _ => none
   | _ => none
 | .slice e, .str l => match (C.T A).k, (C.T e).k with
   | .str, .int .u8 => if l.length ≤ 9223372036854775807 then some (.ar 1 (l.map kj)) else none
   | _, _ => none
 | _, _ => none
 else none
theorem Ir (l : List UInt8) (a7 : Nat → Prop) : bm w F (l.map kj) (l.map fun b => .int .u8 (b.toNat : Int)) a7 := by
 induction l generalizing a7 with
 | nil => simp only [List.map_nil]; rw [bm]
 | cons b l ih =>
   simp only [List.map_cons]
   rw [bm]
   exact ⟨[.int .u8 (b.toNat : Int)], _, fun _ => False, fun _ => False, rfl, by rw [kj, aB], ih _, fun _ h => h.elim, fun _ h => h.elim, fun _ h => h.elim⟩
theorem Qi (bI : C.Ok) (h : bZ w0 F0 X F S s aF w) {A B : TypeId} {x : I} {v : Value} (aR : aY w F s aF x v (fun _ => False)) (he : fW C s A B x = some av) :
  Good C w0 F0 X aF w (convert A B v) av s := by
 unfold fW at he
 split at he
 ·rename_i iL
  obtain ⟨bP, axn, axo, U, bq, a3, a4, a5, o7, o8⟩ := bI.info iL
  split at he
  ·rename_i k dm n aD
   have := pT aR; subst this
   obtain ⟨i, d, z, a1, bh, a8, c6, da, cv, cr⟩ := bI.info (ha aD (by simp))
   rw [aD] at cr
   have := zM cr; subst this
   simp only [Option.some.injEq] at he; subst he
   refine Good.same h ?_ rfl (of_int _ _)
   simp [convert, run_underlying o7, run_underlying cv, Conv.intToInt]
  ·rename_i l aD
   have := o6 aR; subst this
   obtain ⟨i, d, z, a1, bh, a8, c6, da, cv, cr⟩ := bI.info (ha aD (by simp))
   rw [aD] at cr
   have := qL cr; subst this
   split at he
   ·rename_i wL
    rw [wL] at o8
    have := qL o8; subst this
    simp only [Option.some.injEq] at he; subst he
    refine Good.same h ?_ rfl (n9 _)
    simp [convert, run_underlying o7, run_underlying cv]
   ·cases he
  ·rename_i x aD _
   obtain ⟨i, d, z, a1, bh, a8, c6, da, cv, cr⟩ := bI.info (ha aD (by simp))
   rw [aD] at cr
   have := qL cr; subst this
   split at he
   ·rename_i e wL
    rw [wL] at o8
    have := k4 o8; subst this
    split at he
    ·rename_i wM
     obtain ⟨tV, bL, qN, f1, f2, f3, f4, f5, f6, f7⟩ := bI.info (ha wM (by simp))
     rw [wM] at f7
     have := zM f7; subst this
     have fin : ∀ (l : List UInt8) (b o cap : Nat), Rd w b o (l.map fun b => .int .u8 (b.toNat : Int)) → (convert A B (.slice (some ⟨b, o, none⟩) l.length cap)).run C.P w = .ok (.string ⟨⟨l⟩⟩) w := by
      intro l b o cap jI
      refine run_convert_bytes_back w A B e ⟨b, o, none⟩ cap l o7 f6 cv (fun j b_ => ?_)
      rw [Addr.add_lit]
      exact jI j _ (by simp [b_])
     have nil : (convert A B (.slice none 0 0)).run C.P w = .ok (.string ⟨⟨[]⟩⟩) w := by
      simp [convert, run_underlying o7, run_underlying cv, run_underlying f6, Conv.bytesToString]
      rfl
     split at he
     ·have := pU aR; subst this
      simp only [Option.some.injEq] at he; subst he
      exact Good.same h nil rfl (n9 _)
     ·rename_i xs _
      simp only [Option.map_eq_some_iff] at he
      obtain ⟨l, hl, rfl⟩ := he
      rcases zV aR with ⟨rfl, a, c, rfl, _, r5⟩ | ⟨b, o, cap, eH, sz, rfl, af, ai, aN, bk, cc, cF⟩
      ·simp [bytesOf] at hl; subst hl
       cases a with
       | none =>
         have := r5 rfl; subst this
         exact Good.same h nil rfl (n9 _)
       | some a =>
         refine Good.same h ?_ rfl (n9 _)
         exact run_convert_bytes_back w A B e a c [] o7 f6 cv (fun j b_ => by simp at b_)
      ·obtain ⟨rfl, ct⟩ := El xs l eH _ hl cF
       rw [ct]
       exact Good.same h (fin l b o cap cc) rfl (n9 _)
     ·rename_i y q
      split at he
      ·rename_i xs ak
       simp only [Option.map_eq_some_iff] at he
       obtain ⟨l, hl, rfl⟩ := he
       rcases Ek h aR ak with ⟨rfl, a, rfl⟩ | ⟨b, cap, cur, bh, fr, rfl, af, ai, aN, bk, cc, cF, a7, ct, _⟩
       ·simp [bytesOf] at hl; subst hl
        cases a with
        | none => exact Good.same h nil rfl (n9 _)
        | some a =>
          refine Good.same h ?_ rfl (n9 _)
          exact run_convert_bytes_back w A B e a 0 [] o7 f6 cv (fun j b_ => by simp at b_)
       ·obtain ⟨fC, ir⟩ := El xs l _ _ hl ct
        rw [ir]
        refine Good.same h (fin l b 0 cap ?_) rfl (n9 _)
        rw [← fC]
        exact tO af _
      ·cases he
     ·cases he
    ·cases he
   ·cases he
  ·rename_i e l aD
   have := o6 aR; subst this
   obtain ⟨i, d, z, a1, bh, a8, c6, da, cv, cr⟩ := bI.info (ha aD (by simp))
   rw [aD] at cr
   have := k4 cr; subst this
   split at he
   ·rename_i wL wM
    rw [wL] at o8
    have := qL o8; subst this
    obtain ⟨tV, bL, qN, f1, f2, f3, f4, f5, f6, f7⟩ := bI.info (ha wM (by simp))
    rw [wM] at f7
    have := zM f7; subst this
    split at he
    ·rename_i hl
     simp only [Option.some.injEq] at he; subst he
     have ah : (⟨⟨l⟩⟩ : ByteArray).size = l.length := rfl
     have wN := grownCap_ge w l.length 0 e
     have Qj := grownCap_le_maxLen w l.length 0 e (by unfold maxLen; omega)
     have Is : (bytesRow ⟨⟨l⟩⟩ (grownCap w l.length 0 e)).toList = l.map (fun b => Value.int .u8 (b.toNat : Int)) ++ List.replicate (grownCap w l.length 0 e - l.length) (.int .u8 0) := by
      simp [bytesRow, ah]
     have eV : (bytesRow ⟨⟨l⟩⟩ (grownCap w l.length 0 e)).size = grownCap w l.length 0 e * 1 := by
      have : (bytesRow ⟨⟨l⟩⟩ (grownCap w l.length 0 e)).size = (bytesRow ⟨⟨l⟩⟩ (grownCap w l.length 0 e)).toList.length := by simp
      rw [this, Is]; simp; omega
     have r2 := run_bytes_of_string w A B e ⟨⟨l⟩⟩ o7 cv f6
     rw [ah] at r2
     have j3 := h.wK (aP := w.drew.alloc (.cells (bytesRow ⟨⟨l⟩⟩ (grownCap w l.length 0 e)) e ((bytesRow ⟨⟨l⟩⟩ (grownCap w l.length 0 e)).size, (bytesRow ⟨⟨l⟩⟩ (grownCap w l.length 0 e)).size + 1)))
      (sz := 1) (cap := grownCap w l.length 0 e) (xs := l.map kj) (cur := bytesRow ⟨⟨l⟩⟩ (grownCap w l.length 0 e)) (e := e) (Sn := fun _ => False) rfl rfl rfl rfl
      (fun o cl ⟨af, _⟩ => by simp only at af; omega) (by simpa using wN) Qj eV (by intro d ak; obtain ⟨b, _, rfl⟩ := List.mem_map.1 ak; rfl)
      (by rw [Is, List.take_left' (by simp)]; exact Ir l _) (fun _ h => h.elim) (fun _ h => h.elim) (fun _ _ h => h.elim) (fun _ h => h.elim)
     simp only [List.length_map] at j3
     exact ⟨_, _, F, S, r2, j3.1, j3.2⟩
    ·cases he
   ·cases he
  ·cases he
 ·cases he
end
section
variable {C : cw} {w0 w : World} {F0 X F : Nat → Prop} {S : Nat → Nat → Prop} {s s1 : ax} {aF : Nat → Value} {av : I}
def jn (d : Nat) : Option I → Option Nat
 | none => some d
 | some (.int _ n) => if 0 ≤ n then some n.toNat else none
 | some _ => none
def fw (C : cw) (s : ax) (T : TypeId) (x : I) (dn ao : Option I) : Option (I × ax) :=
 match (C.T T).k, x with
 | .str, .str l => match jn 0 dn, jn l.length ao with
   | some a, some b => if a ≤ b ∧ b ≤ l.length then some (.str ((l.take b).drop a), s) else none
   | _, _ => none
 | .slice e, .bu => match jn 0 dn, jn 0 ao with
   | some 0, some 0 => if (C.T e).ok = true then some (.bu, s) else none
   | _, _ => none
 | .slice e, .slice xs => match jn 0 dn, jn xs.length ao with
   | some a, some b => if a ≤ b ∧ b ≤ xs.length ∧ (C.T e).ok = true ∧ (∀ d ∈ xs, d.wd = (C.T e).sz) then some (.slice ((xs.take b).drop a), s) else none
   | _, _ => none
 | .slice e, .h y q => match I.sub q (s y) with
   | some (.ar sz xs) => match jn 0 dn, jn xs.length ao with
     | some 0, some b => if b ≤ xs.length ∧ (C.T e).ok = true then (match c2 s (.h y q) with | some (_, s1) => some (.ar sz (xs.take b), s1) | none => none) else none
     | _, _ => none
   | _ => none
 | _, _ => none
def pV (w : World) (F : Nat → Prop) (s : ax) (aF : Nat → Value) : Option I → Option Value → Prop
 | none, none => True
 | some d, some v => aY w F s aF d v (fun _ => False)
 | _, _ => False
theorem It {d : Nat} {o : Option I} {v : Option Value} (cl : pV w F s aF o v) {a : Nat} (h : jn d o = some a) : (o = none ∧ v = none ∧ a = d) ∨ ∃ k, v = some (.int k a) := by
 cases o with
 | none =>
   cases v with
   | none => simp [jn] at h; exact .inl ⟨rfl, rfl, h.symm⟩
   | some v => simp [pV] at cl
 | some x =>
   cases v with
   | none => simp [pV] at cl
   | some v =>
     simp only [pV] at cl
     cases x with
     | int k n =>
       have := pT cl; subst this
       simp only [jn] at h
       split at h
       ·rename_i bl
        simp only [Option.some.injEq] at h; subst h
        obtain ⟨m, rfl⟩ := Int.eq_ofNat_of_zero_le bl
        exact .inr ⟨k, rfl⟩
       ·cases h
     | _ => simp [jn] at h
theorem tY {P : Program} {isS : Bool} {len cap a b : Nat} {dn ao : Option I} {r6 r7 : Option Value} (nx : pV w F s aF dn r6) (ny : pV w F s aF ao r7) (cz : jn 0 dn = some a) (ad : jn len ao = some b) (kB : a ≤ b) (Qk : b ≤ cap) (_hlc : len ≤ cap) :
  (Instr.sliceBounds isS len cap r6 r7 none).run P w = .ok (a, b, cap) w := by
 rcases It nx cz with ⟨_, rfl, rfl⟩ | ⟨k, rfl⟩ <;> rcases It ny ad with ⟨_, rfl, rfl⟩ | ⟨dm, rfl⟩ <;>
  simp [Instr.sliceBounds, Instr.sliceBound, asIntOf, kB, Qk]
theorem tZ (bI : C.Ok) {T : TypeId} (aD : (C.T T).flat = true) (v : Value) (dn ao hD : Option Value) (w : World) : (Instr.sliceAt T v dn ao hD).run C.P w = (Instr.slice T v dn ao hD).run C.P w := by
 obtain ⟨i, d, z, a1, bh, a8, c6, da, cv, cr⟩ := bI.info (Ia aD)
 have dB : ∀ n e, d ≠ .array n e := by
  clear cv
  unfold g_.flat at aD
  generalize (C.T T).k = lM at *
  cases lM <;> cases d <;> simp [lq] at cr aD ⊢
 cases d <;> first | exact (dB _ _ rfl).elim | simp [Instr.sliceAt, run_underlying cv]
theorem t_ {x : g_} {k : nw} (h : x.k = k) (aD : k ≠ .other) (ah : ∀ aC, k ≠ .struct aC) : x.flat = true := by
 unfold g_.flat; rw [h]; cases k <;> first | rfl | exact (aD rfl).elim | exact (ah _ rfl).elim
theorem bm.split : ∀ (n : Nat) (xs : List I) (cs : List Value) (a7 : Nat → Prop), bm w F xs cs a7 → ∃ cH cI cy et, cs = cH ++ cI ∧ bm w F (xs.take n) cH cy ∧ bm w F (xs.drop n) cI et ∧ (∀ b, cy b → a7 b) ∧ (∀ b, et b → a7 b) ∧ (∀ b, cy b → ¬ et b)
 | 0, xs, cs, a7, h => ⟨[], cs, fun _ => False, a7, rfl, by rw [List.take_zero, bm], h, fun _ h => h.elim, fun _ h => h, fun _ h => h.elim⟩
 | n + 1, [], cs, a7, h => by rw [bm] at h; subst h; exact ⟨[], [], fun _ => False, fun _ => False, rfl, by rw [List.take_nil, bm], by rw [List.drop_nil, bm], fun _ h => h.elim, fun _ h => h.elim, fun _ h => h.elim⟩
 | n + 1, x :: xs, cs, a7, h => by
   rw [bm] at h
   obtain ⟨cH, cI, hF, gS, rfl, af, ai, aN, bk, cc⟩ := h
   obtain ⟨d1, d2, cy, et, rfl, bo, bR, cJ, eE, fK⟩ := bm.split n xs cI gS ai
   refine ⟨cH ++ d1, d2, fun b => hF b ∨ cy b, et, by simp, ?_, bR, ?_, fun b ad => bk _ (eE _ ad), ?_⟩
   ·rw [List.take_succ_cons, bm]
    exact ⟨cH, d1, hF, cy, rfl, af, bo, fun _ h => .inl h, fun _ h => .inr h, fun b ad ay => cc b ad (cJ b ay)⟩
   ·rintro b (ad | ad)
    ·exact aN b ad
    ·exact bk b (cJ b ad)
   ·rintro b (ad | ad) ay
    ·exact cc b ad (eE b ay)
    ·exact fK b ad ay
theorem Ql (bI : C.Ok) (h : bZ w0 F0 X F S s aF w) {T : TypeId} {x : I} {v : Value} {dn ao : Option I} {r6 r7 : Option Value} (aq : x.plain = true) (aR : aY w F s aF x v (fun _ => False)) (nx : pV w F s aF dn r6) (ny : pV w F s aF ao r7)
  (he : fw C s T x dn ao = some (av, s1)) : Good C w0 F0 X aF w (Instr.sliceAt T v r6 r7 none) av s1 := by
 unfold fw at he
 split at he
 ·rename_i l aD
  have := o6 aR; subst this
  obtain ⟨i, d, z, a1, bh, a8, c6, da, cv, cr⟩ := bI.info (ha aD (by simp))
  rw [aD] at cr
  have := qL cr; subst this
  split at he
  ·rename_i a b cz ad
   split at he
   ·rename_i kB
    simp only [Option.some.injEq, Prod.mk.injEq] at he
    obtain ⟨rfl, rfl⟩ := he
    refine Good.same h ?_ rfl (n9 _)
    rw [tZ bI (t_ aD (by simp) (by simp))]
    have eV : (⟨⟨l⟩⟩ : ByteArray).size = l.length := rfl
    have nz := tY (P := C.P) (isS := false) (len := l.length) (cap := l.length) nx ny cz ad kB.1 kB.2 (Nat.le_refl _)
    have Qm : (⟨⟨l⟩⟩ : ByteArray).extract a b = ⟨⟨(l.take b).drop a⟩⟩ := by
     apply ByteArray.ext
     simp [ByteArray.data_extract, List.drop_take]
    simp [Instr.slice, run_underlying cv, eV, nz, Qm]
   ·cases he
  ·cases he
 ·rename_i e aD
  have := pU aR; subst this
  obtain ⟨i, d, z, a1, bh, a8, c6, da, cv, cr⟩ := bI.info (ha aD (by simp))
  rw [aD] at cr
  have := k4 cr; subst this
  split at he
  ·rename_i cz ad
   split at he
   ·rename_i ob
    obtain ⟨tV, bL, qN, f1, f2, f3, f4, f5, f6, f7⟩ := bI.info ob
    simp only [Option.some.injEq, Prod.mk.injEq] at he
    obtain ⟨rfl, rfl⟩ := he
    have nz := tY (P := C.P) (isS := true) (len := 0) (cap := 0) nx ny cz ad (Nat.le_refl _) (Nat.le_refl _) (Nat.le_refl _)
    refine Good.same h (v := .slice none 0 0) ?_ rfl aR
    rw [tZ bI (t_ aD (by simp) (by simp))]
    simp [Instr.slice, run_underlying cv, nz, j0 f1, f2]
   ·cases he
  ·cases he
 ·rename_i e xs aD
  obtain ⟨i, d, z, a1, bh, a8, c6, da, cv, cr⟩ := bI.info (ha aD (by simp))
  rw [aD] at cr
  have := k4 cr; subst this
  split at he
  ·rename_i a b cz ad
   split at he
   ·rename_i kB
    obtain ⟨Qn, Iu, ob, mb⟩ := kB
    obtain ⟨tV, bL, qN, f1, f2, f3, f4, f5, f6, f7⟩ := bI.info ob
    simp only [Option.some.injEq, Prod.mk.injEq] at he
    obtain ⟨rfl, rfl⟩ := he
    rcases zV aR with ⟨rfl, ua, c, rfl, r8, r5⟩ | ⟨kH, o, cap, eH, sz, rfl, af, ai, aN, bk, cc, cF⟩
    ·have hR : b = 0 := by simpa using Iu
     subst hR
     have Qo : a = 0 := by omega
     subst Qo
     have nz := tY (P := C.P) (isS := true) (len := 0) (cap := c) nx ny cz ad (Nat.le_refl _) (Nat.zero_le _) (Nat.zero_le _)
     refine Good.same h (v := .slice ua 0 c) ?_ rfl ((aY.c9 rfl).2 ⟨rfl, by rw [aB]; exact .inl ⟨rfl, ua, c, rfl, r8, r5⟩⟩)
     rw [tZ bI (t_ aD (by simp) (by simp))]
     cases ua with
     | none =>
       have := r5 rfl; subst this
       simp [Instr.slice, run_underlying cv, nz, j0 f1, f2]
     | some ua => simp [Instr.slice, run_underlying cv, nz, j0 f1, f2, Addr.add]
    ·have nz := tY (P := C.P) (isS := true) (len := xs.length) (cap := cap) nx ny cz ad Qn (Nat.le_trans Iu ai) ai
     obtain ⟨cH, cI, cy, et, rfl, bo, bR, cJ, eE, fK⟩ := bm.split b xs eH _ cF
     obtain ⟨d1, d2, axp, Iv, rfl, cf, cB, fD, eQ, gA⟩ := bm.split a (xs.take b) cH _ bo
     have Em : d1.length = a * (C.T e).sz := by
      rw [bm.length _ _ _ cf, rT _ (fun d ak => mb d (List.mem_of_mem_take (List.mem_of_mem_take ak))), List.length_take, List.length_take]
      congr 1; omega
     have hlen : ((xs.take b).drop a).length = b - a := by simp; omega
     have jI : Rd w kH (o + a * (C.T e).sz) d2 := by
      rw [← Em]
      have : Rd w kH o (d1 ++ (d2 ++ cI)) := by simpa using cc
      exact this.Ee
     have zW : bm w F ((xs.take b).drop a) d2 (fun _ => False) := bm.mono (fun _ h => h) _ _ _ _ (fun b ad => (cJ _ (eQ _ ad)).elim) cB
     have mem : ∀ d ∈ (xs.take b).drop a, d.wd = sz := fun d ak => bk d (List.mem_of_mem_take (List.mem_of_mem_drop ak))
     have run : (Instr.sliceAt T (.slice (some ⟨kH, o, none⟩) xs.length cap) r6 r7 none).run C.P w = .ok (.slice (if cap = a then some ⟨kH, o, none⟩ else some ⟨kH, o + a * (C.T e).sz, none⟩) (b - a) (cap - a)) w := by
      rw [tZ bI (t_ aD (by simp) (by simp))]
      simp [Instr.slice, run_underlying cv, nz, j0 f1, f2, Addr.add_lit]
     refine ⟨_, w, F, S, run, h, .inl ⟨rfl, (aY.c9 rfl).2 ⟨rfl, ?_⟩⟩⟩
     simp only [c1, h_]
     rw [aB]
     by_cases Iw : cap = a
     ·have Qp : b = a := by omega
      subst Qp
      have wO : (xs.take b).drop b = [] := by simp
      rw [if_pos Iw]
      rw [wO] at zW ⊢
      rw [bm] at zW
      subst zW
      exact .inr ⟨kH, o, cap - b, [], sz, by simp, af, Nat.zero_le _, by omega, by simp, fun j c b_ => by simp at b_, by rw [bm]⟩
     ·rw [if_neg Iw]
      exact .inr ⟨kH, _, cap - a, d2, sz, by rw [hlen], af, by rw [hlen]; omega, by omega, mem, jI, zW⟩
   ·cases he
  ·cases he
 ·rename_i e y q aD
  split at he
  ·rename_i sz xs ak
   split at he
   ·rename_i b cz ad
    split at he
    ·rename_i ub
     split at he
     ·rename_i Qq s2 bs
      simp only [Option.some.injEq, Prod.mk.injEq] at he
      obtain ⟨rfl, rfl⟩ := he
      obtain ⟨i, d, z, a1, bh, a8, c6, da, cv, cr⟩ := bI.info (ha aD (by simp))
      rw [aD] at cr
      have := k4 cr; subst this
      obtain ⟨tV, bL, qN, f1, f2, f3, f4, f5, f6, f7⟩ := bI.info ub.2
      have Qr : Qq = .ar sz xs := by
       simp only [c2, ak, I.plain] at bs
       simp at bs
       exact bs.1.symm
      subst Qr
      obtain ⟨cy, hG, bo, bR, Sn, cJ, eE, fK, ib, iJ, lu⟩ := qK h rfl aR bs
      rw [iI bR, aB] at cJ
      rcases cJ with ⟨rfl, a0, k7⟩ | ⟨kH, cap, cur, gB, fr, a7, k7, cf, cB, fD, eQ, gA, dU, j4, fg, lO, lP⟩
      ·simp at k7; subst k7
       have hR : b = 0 := by simpa using ub.1
       subst hR
       have nz := tY (P := C.P) (isS := true) (len := 0) (cap := 0) nx ny cz ad (Nat.le_refl _) (Nat.le_refl _) (Nat.le_refl _)
       refine ⟨.slice a0 0 0, w, F, cy, ?_, hG, .inr ⟨rfl, rfl, fun _ => False, by simp only [c1, h_]; rw [aB]; exact .inl ⟨rfl, _, rfl⟩, fun _ h => h.elim, fun _ h => h.elim, fun _ _ h => h.elim, fun _ h => h.elim⟩⟩
       rw [tZ bI (t_ aD (by simp) (by simp))]
       cases a0 <;> simp [Instr.slice, run_underlying cv, nz, j0 f1, f2]
      ·simp at k7; subst k7
       have nz := tY (P := C.P) (isS := true) (len := xs.length) (cap := cap) nx ny cz ad (Nat.zero_le _) (Nat.le_trans ub.1 eQ) eQ
       have hlen : (xs.take b).length = b := by simp; omega
       have run : (Instr.sliceAt T (.slice (some ⟨kH, 0, none⟩) xs.length cap) r6 r7 none).run C.P w = .ok (.slice (some ⟨kH, 0, none⟩) b cap) w := by
        rw [tZ bI (t_ aD (by simp) (by simp))]
        simp [Instr.slice, run_underlying cv, nz, j0 f1, f2, Addr.add_lit]
       refine ⟨_, w, F, cy, run, hG, .inr ⟨rfl, rfl, Sn, ?_, eE, fK, ib, iJ⟩⟩
       simp only [c1, h_]
       rw [aB]
       obtain ⟨cH, cI, hF, gS, ay, fM, gN, hI, kF, mg⟩ := bm.split b xs _ _ fg
       refine .inr ⟨kH, cap, cur, gB, fr, a7, by rw [hlen], cf, cB, fD, by omega, gA, dU, fun d ak => j4 d (List.mem_of_mem_take ak), ?_, lO, lP⟩
       have Em : cH.length = b * sz := by
        rw [bm.length _ _ _ fM, rT _ (fun d ak => j4 d (List.mem_of_mem_take ak)), hlen]
       have : cur.toList.take ((xs.take b).length * sz) = cH := by
        rw [hlen]
        have ai : b * sz ≤ xs.length * sz := Nat.mul_le_mul_right _ ub.1
        have : (cur.toList.take (xs.length * sz)).take (b * sz) = cH := by rw [ay, List.take_left' Em]
        rwa [List.take_take, Nat.min_eq_left ai] at this
       rw [this]
       exact bm.mono (fun _ h => h) _ _ _ _ hI fM
     ·cases he
    ·cases he
   ·cases he
  ·cases he
 ·cases he
end
section
variable {C : cw} {w0 w : World} {F0 X F : Nat → Prop} {S : Nat → Nat → Prop} {s s1 : ax} {aF : Nat → Value} {av : I}
def Src (P : Program) (w : World) (size : Nat) (x : Value) (m : Nat) (news : List Value) : Prop :=
 ∀ aP : World, aP.heap = w.heap → (Builtin.lenOf x).run P aP = .ok m aP ∧ (Builtin.firstCells size m x).run P aP = .ok news.toArray aP
def En (d : TypeDesc) : Prop := (∃ e, d = .slice e) ∨ d = .string
theorem Qs {P : Program} {T bV ty e : TypeId} {pW : TypeDesc} {i : TypeInfo} (bs : P.underlying T = some (.slice e)) (hu : P.underlying bV = some pW) (r9 : En pW) (ao : P.info? e = some i)
  {x : Value} {m : Nat} {news : List Value} (zX : Src P w i.size x m news) {b n cap : Nat} {cur : Array Value} {gB : TypeId} {fr : Nat × Nat} {l mid r : List Value} (ad : w.heap[b]? = some (.cells cur gB fr)) (bJ : n3 fr cur.size)
  (ay : cur.toList = l ++ (mid ++ r)) (hl : l.length = n * i.size) (hm : mid.length = news.length) (zS : ∀ v ∈ news, Value.g5 v = true) (o9 : n + m ≤ cap) :
  ∃ aP, (Builtin.append_ #[T, bV] ty #[.slice (some ⟨b, 0, none⟩) n cap, x]).run P w = .ok (.slice (some ⟨b, 0, none⟩) (n + m) cap) aP ∧ aP.heap[b]? = some (.cells (l ++ (news ++ r)).toArray gB fr) ∧
    (∀ c, c ≠ b → aP.heap[c]? = w.heap[c]?) ∧ aP.heap.size = w.heap.size ∧ aP.os = w.os ∧ aP.tape = w.tape ∧ aP.output = w.output := by
 obtain ⟨aP, fM, gN⟩ := zR (P := P) (b := b) (o := n * i.size) (e := gB) (fr := fr) news 0 cur w l mid r ad bJ ay (by omega) hm zS
 refine ⟨aP, ?_, gN⟩
 obtain ⟨af, ai⟩ := zX w rfl
 rcases r9 with ⟨fv, rfl⟩ | rfl <;> simp [Builtin.append_, run_underlying bs, run_underlying hu, j0 ao, af, ai, o9, Addr.add_lit, fM]
theorem Qt {P : Program} {T bV ty e : TypeId} {pW : TypeDesc} {i : TypeInfo} {z : Value} (bs : P.underlying T = some (.slice e)) (hu : P.underlying bV = some pW) (r9 : En pW) (ao : P.info? e = some i) (bY : i.zero = some z)
  {x : Value} {m : Nat} {news : List Value} (zX : Src P w i.size x m news) {base : Option Addr} {n cap : Nat} {oc : List Value} (hold : Src P w i.size (.slice base n cap) n oc) (o9 : ¬ n + m ≤ cap)
  (bl : n + m ≤ 9223372036854775807) (Eo : (n + m) * i.bytes ≤ 140737488355328) :
  (Builtin.append_ #[T, bV] ty #[.slice base n cap, x]).run P w = .ok (.slice (some ⟨w.heap.size, 0, none⟩) (n + m) (grownCap w (n + m) cap e))
   (w.drew.alloc (.cells (oc.toArray ++ news.toArray ++ Builtin.zeroCells z.cells (grownCap w (n + m) cap e - (n + m))) e)) := by
 have af := (zX w rfl).1
 have ai := (zX w.drew rfl).2
 have aN := (hold w.drew rfl).2
 have Ix := growslice_fits (need := n + m) (old := cap) (by omega) Eo
 have j1 : ¬ (281474976710656 < Builtin.nextslicecap (n + m) cap * i.bytes) := by omega
 have uc : ∀ k (w : World), (askRoom k).run P w = .ok () w := by
  intro k w
  unfold askRoom
  split <;> rfl
 have Ep : ¬ (9223372036854775807 < (n : Int) + (m : Int) ∧ i.bytes = 0) := by omega
 rcases r9 with ⟨fv, rfl⟩ | rfl <;>
  ·simp [Builtin.append_, run_underlying bs, run_underlying hu, j0 ao, rZ ao, af, o9, j1, Question.forced, uc]
   rw [if_neg Ep, aN]
   simp [ai, tU ao bY, newRow, grownCap]
   have a1 : (oc ++ news).toArray = oc.toArray ++ news.toArray := by simp
   rw [a1, Array.append_assoc]
def zY (C : cw) (e bV : TypeId) : Bool := match (C.T bV).k, (C.T e).k with
 | .slice fv, _ => fv == e
 | .str, .int .u8 => true
 | _, _ => false
def lQ (C : cw) (s : ax) (T bV : TypeId) (x y : I) : Option (I × ax) :=
 match (C.T T).k with
 | .slice e => if (C.T e).ok = true ∧ (C.T e).zero.wd = (C.T e).sz ∧ (flat (C.T e).zero).isSome = true ∧ zY C e bV = true then
   match (match x with | .bu => some (I.ar (C.T e).sz [], s) | .h a q => c2 s (.h a q) | _ => none) with
   | some (.ar sz xs, s1) => if sz = (C.T e).sz then
     match (match kD x.owner y with
      | .bu => some ([], s1)
      | .slice cp => some (cp, s1)
      | .str l => some (l.map kj, s1)
      | .h a q => match c2 s1 (.h a q) with
        | some (.ar _ cp, s2) => some (cp, s2)
        | _ => none
      | _ => none) with
     | some (cp, s2) => if (∀ d ∈ cp, d.wd = (C.T e).sz) ∧ (xs.length + cp.length) * (C.T e).bytes ≤ 140737488355328 ∧ xs.length + cp.length ≤ 9223372036854775807 then some (.ar sz (xs ++ cp), s2) else none
     | none => none
     else none
   | _ => none
   else none
 | _ => none
theorem bm.append {xs cp : List I} {cH cI : List Value} {cy et a7 : Nat → Prop} (af : bm w F xs cH cy) (ai : bm w F cp cI et) (a1 : ∀ b, cy b → a7 b) (bh : ∀ b, et b → a7 b) (a8 : ∀ b, cy b → ¬ et b) : bm w F (xs ++ cp) (cH ++ cI) a7 := by
 induction xs generalizing cH cy a7 with
 | nil => rw [bm] at af; subst af; exact bm.mono (fun _ h => h) _ _ _ _ bh ai
 | cons x xs ih =>
   rw [bm] at af
   obtain ⟨Qu, Qv, hF, gS, rfl, bo, bR, cJ, eE, fK⟩ := af
   rw [List.cons_append, bm]
   refine ⟨Qu, Qv ++ cI, hF, fun b => gS b ∨ et b, by simp, bo, ih bR (fun b h => .inl h) (fun b h => .inr h) (fun b h => a8 b (eE b h)), fun b h => a1 b (cJ b h), ?_, ?_⟩
   ·rintro b (h | h)
    ·exact a1 b (eE b h)
    ·exact bh b h
   ·rintro b h (bM | bM)
    ·exact fK b h bM
    ·exact a8 b (cJ b h) bM
theorem Er {P : Program} {size m cap : Nat} {b o : Nat} {news : List Value} (jI : Rd w b o news) (hl : news.length = m * size) : Src P w size (.slice (some ⟨b, o, none⟩) m cap) m news := by
 intro aP hw
 refine ⟨rfl, ?_⟩
 refine run_firstCells_some aP size m ⟨b, o, none⟩ m cap news hl (fun j v b_ => ?_)
 rw [Addr.add_lit]
 have := jI j v b_
 simpa [World.cell?, hw] using this
theorem Iy {P : Program} {size cap : Nat} : Src P w size (.slice none 0 cap) 0 [] := by
 intro aP _
 exact ⟨rfl, by simp [Builtin.firstCells]⟩
theorem Es {P : Program} {size cap : Nat} (a : Option Addr) : Src P w size (.slice a 0 cap) 0 [] := by
 cases a with
 | none => exact Iy
 | some a =>
   intro aP _
   exact ⟨rfl, run_firstCells_some aP size 0 a 0 cap [] (by simp) (fun j v b_ => by simp at b_)⟩
theorem Qw {P : Program} (l : List UInt8) : Src P w 1 (.string ⟨⟨l⟩⟩) l.length (l.map fun b => .int .u8 (b.toNat : Int)) := by
 intro aP _
 refine ⟨rfl, ?_⟩
 have : (⟨⟨l⟩⟩ : ByteArray).extract 0 l.length = ⟨⟨l⟩⟩ := by
  apply ByteArray.ext
  simp [ByteArray.data_extract]
 simp [Builtin.firstCells, this]
theorem bm.r_ {sz : Nat} {xs : List I} {cs : List Value} {a7 : Nat → Prop} (h : bm w F xs cs a7) (hw : ∀ d ∈ xs, d.wd = sz) : cs.length = xs.length * sz := by
 rw [bm.length _ _ _ h, rT _ hw]
theorem bZ.turn (h : bZ w0 F0 X F S s aF w) {aP : World} {b : Nat} (ad : ∀ c, c ≠ b → aP.heap[c]? = w.heap[c]?) (ah : aP.heap.size = w.heap.size) (af : aP.os = w.os) (ai : aP.tape = w.tape) (aN : aP.output = w.output)
  (bH : ¬ F b) (bS : ∀ u, ¬ S u b) (bc : X b ∨ w0.heap.size ≤ b) : bZ w0 F0 X F S s aF aP where
 hv := h.hv
 hQ := h.hQ
 gh := fun c ay => by rw [ah]; exact h.gh c ay
 fc := fun t c ay => by rw [ah]; exact h.fc t c ay
 gr := h.gr
 gi := h.gi
 ek := h.ek
 ee := fun t => aY.frame (Sx := S) (fun c ay => ad c (by rintro rfl; exact bH ay)) (fun _ h => h) (fun x c ay => ad c (by rintro rfl; exact bS x ay)) h.ee _ _ _ (fun c ay => ad c (by rintro rfl; exact bS t ay)) (h.ee t)
 old := fun c fi ki => by
  rw [ad c ?_]
  ·exact h.old c fi ki
  ·rintro rfl
   rcases bc with bc | bc
   ·exact ki bc
   ·omega
 size := by rw [ah]; exact h.size
 os := af.trans h.os
 tape := ai.trans h.tape
 output := aN.trans h.output
theorem Qx (bI : C.Ok) (h : bZ w0 F0 X F S s aF w) {T bV ty : TypeId} {x y : I} {j2 jD : Value} (aq : aY w F s aF x j2 (fun _ => False)) (bD : aY w F s aF y jD (fun _ => False))
  (he : lQ C s T bV x y = some (av, s1)) : Good C w0 F0 X aF w (Builtin.append_ #[T, bV] ty #[j2, jD]) av s1 := by
 unfold lQ at he
 split at he
 ·rename_i e aD
  obtain ⟨Et, d, Eu, a1, bh, a8, c6, da, cv, cr⟩ := bI.info (ha aD (by simp))
  rw [aD] at cr
  have := k4 cr; subst this
  split at he
  ·rename_i r3
   obtain ⟨ob, o_, pX, pa⟩ := r3
   obtain ⟨i, Ev, z, f1, f2, f3, f4, f5, f6, f7⟩ := bI.info ob
   obtain ⟨fp, lv⟩ := Option.isSome_iff_exists.1 pX
   have pY := f5 fp lv
   have od : fp.length = (C.T e).sz := by
    have := aB.length _ _ _ ((aB.flat (w := w) (F := F) _).1 (C.T e).zero fp (fun _ => False) (Nat.le_refl _) lv)
    rw [this, o_]
   obtain ⟨pW, hu, r9⟩ : ∃ pW, C.P.underlying bV = some pW ∧ En pW := by
    unfold zY at pa
    split at pa
    ·rename_i fv jo
     obtain ⟨_, bL, _, _, _, _, _, _, ib, iJ⟩ := bI.info (ha jo (by simp))
     rw [jo] at iJ
     exact ⟨bL, ib, .inl ⟨_, k4 iJ⟩⟩
    ·rename_i jo _
     obtain ⟨_, bL, _, _, _, _, _, _, ib, iJ⟩ := bI.info (ha jo (by simp))
     rw [jo] at iJ
     exact ⟨bL, ib, .inr (qL iJ)⟩
    ·cases pa
   split at he
   ·rename_i sz xs Ew pb
    split at he
    ·rename_i eV
     subst eV
     split at he
     ·rename_i cp wP nA
      split at he
      ·rename_i Qy
       obtain ⟨ud, Eo, Ex⟩ := Qy
       simp only [Option.some.injEq, Prod.mk.injEq] at he
       obtain ⟨rfl, rfl⟩ := he
       obtain ⟨hF, a0, Sn, a3, a4, a5, o7, o8, axq, a9, qP⟩ : ∃ hF, bZ w0 F0 X F hF Ew aF w ∧ ∃ Sn, aB w F (.ar (C.T e).sz xs) [j2] Sn ∧ (∀ b, Sn b → b < w.heap.size) ∧ (∀ b, Sn b → ¬ F b) ∧ (∀ u b, Sn b → ¬ hF u b) ∧
         (∀ b, Sn b → X b ∨ w0.heap.size ≤ b) ∧ (∀ u b, hF u b → S u b) ∧ (∀ b, Sn b → ∃ u, S u b) ∧ aY w F Ew aF (kD x.owner y) jD (fun _ => False) := by
        split at pb
        ·simp only [Option.some.injEq, Prod.mk.injEq, I.ar.injEq, true_and] at pb
         obtain ⟨rfl, rfl⟩ := pb
         have := pU aq; subst this
         exact ⟨S, h, fun _ => False, by rw [aB]; exact .inl ⟨rfl, _, rfl⟩, fun _ h => h.elim, fun _ h => h.elim, fun _ _ h => h.elim, fun _ h => h.elim, fun _ _ h => h, fun _ h => h.elim, bD⟩
        ·obtain ⟨cy, hG, bo, bR, Sn, cJ, eE, fK, ib, iJ, lu, wQ, zZ⟩ := qK h rfl aq pb
         rw [iI bR] at cJ
         exact ⟨cy, hG, Sn, cJ, eE, fK, ib, iJ, lu, wQ, zZ _ _ _ bD⟩
        ·cases pb
       obtain ⟨gS, kH, mU, news, lR, i_, mh, bz, bO, cM, iM, bf⟩ : ∃ gS, bZ w0 F0 X F gS wP aF w ∧ ∃ mU news, bm w F cp news mU ∧ Src C.P w i.size jD cp.length news ∧ (∀ b, mU b → b < w.heap.size) ∧ (∀ b, mU b → ¬ F b) ∧ (∀ u b, mU b → ¬ gS u b) ∧
         (∀ b, mU b → X b ∨ w0.heap.size ≤ b) ∧ (∀ u b, gS u b → hF u b) ∧ (∀ b, mU b → ∃ u, hF u b) := by
        split at nA
        ·rename_i pZ
         simp only [Option.some.injEq, Prod.mk.injEq] at nA
         obtain ⟨rfl, rfl⟩ := nA
         rw [pZ] at qP
         have := pU qP; subst this
         exact ⟨hF, a0, fun _ => False, [], by rw [bm], Iy, fun _ h => h.elim, fun _ h => h.elim, fun _ _ h => h.elim, fun _ h => h.elim, fun _ _ h => h, fun _ h => h.elim⟩
        ·rename_i zs pZ
         simp only [Option.some.injEq, Prod.mk.injEq] at nA
         obtain ⟨rfl, rfl⟩ := nA
         rw [pZ] at qP
         rcases zV qP with ⟨rfl, ua, axr, rfl, _, r5⟩ | ⟨b, o, cap, eH, Qz, rfl, cf, cB, fD, eQ, gA, dU⟩
         ·exact ⟨hF, a0, fun _ => False, [], by rw [bm], Es ua, fun _ h => h.elim, fun _ h => h.elim, fun _ _ h => h.elim, fun _ h => h.elim, fun _ _ h => h, fun _ h => h.elim⟩
         ·exact ⟨hF, a0, fun _ => False, eH, dU, Er gA (by rw [f2]; exact bm.r_ dU ud), fun _ h => h.elim, fun _ h => h.elim, fun _ _ h => h.elim, fun _ h => h.elim, fun _ _ h => h, fun _ h => h.elim⟩
        ·rename_i l pZ
         simp only [Option.some.injEq, Prod.mk.injEq] at nA
         obtain ⟨rfl, rfl⟩ := nA
         rw [pZ] at qP
         have := o6 qP; subst this
         have z1 : l ≠ [] → i.size = 1 := by
          intro hl
          cases l with
          | nil => exact (hl rfl).elim
          | cons b l => rw [f2, ← ud (kj b) (by simp)]; rfl
         by_cases hl : l = []
         ·subst hl
          refine ⟨hF, a0, fun _ => False, [], by simp only [List.map_nil]; rw [bm], ?_, fun _ h => h.elim, fun _ h => h.elim, fun _ _ h => h.elim, fun _ h => h.elim, fun _ _ h => h, fun _ h => h.elim⟩
          intro aP _
          exact ⟨rfl, by simp [Builtin.firstCells, ByteArray.extract]; rfl⟩
         ·refine ⟨hF, a0, fun _ => False, _, Ir l _, ?_, fun _ h => h.elim, fun _ h => h.elim, fun _ _ h => h.elim, fun _ h => h.elim, fun _ _ h => h, fun _ h => h.elim⟩
          rw [z1 hl, List.length_map]
          exact Qw l
        ·rename_i a q pZ
         split at nA
         ·rename_i axs zs s2 bs
          simp only [Option.some.injEq, Prod.mk.injEq] at nA
          obtain ⟨rfl, rfl⟩ := nA
          rw [pZ] at qP
          obtain ⟨et, hG, bo, bR, mU, cJ, eE, fK, ib, iJ, lu, wQ, zZ⟩ := qK a0 rfl qP bs
          rw [iI bR, aB] at cJ
          rcases cJ with ⟨rfl, QA, k7⟩ | ⟨b, cap, cur, gB, fr, a7, k7, cf, cB, fD, eQ, gA, dU, j4, fg, lO, lP⟩
          ·simp at k7; subst k7
           exact ⟨et, hG, fun _ => False, [], by rw [bm], (Es QA), fun _ h => h.elim, fun _ h => h.elim, fun _ _ h => h.elim, fun _ h => h.elim, lu, fun _ h => h.elim⟩
          ·simp at k7; subst k7
           refine ⟨et, hG, a7, _, fg, Er (tO cB _) ?_, fun c ay => eE c (lO c ay), fun c ay => fK c (lO c ay), fun u c ay => ib u c (lO c ay), fun c ay => iJ c (lO c ay), lu, fun c ay => wQ c (lO c ay)⟩
           rw [f2]; exact bm.r_ fg ud
         ·cases nA
        ·cases nA
       have qQ : news.length = cp.length * (C.T e).sz := bm.r_ lR ud
       have nB : ∀ c, Sn c → ¬ mU c := fun c af ai => by obtain ⟨u, hu⟩ := bf c ai; exact o7 u c af hu
       have kB : ∀ u c, Sn c → ¬ gS u c := fun u c af ai => o7 u c af (iM u c ai)
       have grow : ∀ (base : Option Addr) (cap : Nat) (oc : List Value) (Sx : Nat → Prop), j2 = .slice base xs.length cap → Src C.P w i.size (.slice base xs.length cap) xs.length oc → bm w F xs oc Sx → (∀ d ∈ xs, d.wd = (C.T e).sz) → (∀ c, Sx c → Sn c) → ¬ xs.length + cp.length ≤ cap →
         Good C w0 F0 X aF w (Builtin.append_ #[T, bV] ty #[j2, jD]) (.ar (C.T e).sz (xs ++ cp)) wP := by
        intro base cap oc Sx Eh hold Iz IA fb o9
        subst Eh
        have bb := Qt (ty := ty) cv hu r9 f1 f4 i_ hold o9 Ex (by rw [f3]; exact Eo)
        have wN := grownCap_ge w (xs.length + cp.length) cap e
        have r8 := grownCap_le_maxLen w (xs.length + cp.length) cap e (by unfold maxLen; omega)
        have wR := bm.r_ Iz IA
        have QB : bm w F (xs ++ cp) (oc ++ news) (fun c => Sx c ∨ mU c) := bm.append Iz lR (fun _ h => .inl h) (fun _ h => .inr h) (fun c af ai => nB c (fb c af) ai)
        have QC : (oc ++ news).length = (xs ++ cp).length * (C.T e).sz := by simp [wR, qQ, Nat.add_mul]
        have j3 := kH.wK (aP := w.drew.alloc (.cells (oc.toArray ++ news.toArray ++ Builtin.zeroCells z.cells (grownCap w (xs.length + cp.length) cap e - (xs.length + cp.length))) e))
         (sz := (C.T e).sz) (cap := grownCap w (xs.length + cp.length) cap e) (xs := xs ++ cp) (e := e) (fr := (0, 0)) (Sn := fun c => Sx c ∨ mU c) rfl rfl rfl rfl
         (fun o _ ⟨_, ai⟩ => absurd ai (Nat.not_lt_zero _)) (by simpa using wN) r8
         (by
          simp only [Array.size_append, List.size_toArray, size_zeroCells, pY, wR, qQ, od, ← Nat.add_mul]
          congr 1; omega)
         (by
          intro d ak
          rcases List.mem_append.1 ak with ak | ak
          ·exact IA d ak
          ·exact ud d ak)
         (by
          simp only [Array.toList_append]
          rw [List.take_left' QC]
          exact QB)
         (by rintro c (ay | ay); exact a4 c (fb c ay); exact mh c ay) (by rintro c (ay | ay); exact a5 c (fb c ay); exact bz c ay) (by rintro u c (ay | ay); exact kB u c (fb c ay); exact bO u c ay) (by rintro c (ay | ay); exact o8 c (fb c ay); exact cM c ay)
        refine ⟨_, _, F, gS, bb, j3.1, ?_⟩
        have := j3.2
        simpa using this
       rw [aB] at a3
       rcases a3 with ⟨rfl, z2, k7⟩ | ⟨b, cap, cur, gB, fr, a7, k7, cf, cB, fD, eQ, gA, dU, j4, fg, lO, lP⟩
       ·simp at k7; subst k7
        by_cases IB : cp = []
        ·subst IB
         have Ey : news = [] := by simpa using qQ
         subst Ey
         refine ⟨.slice z2 0 0, w, F, gS, ?_, kH, .inr ⟨rfl, rfl, fun _ => False, by simp only [c1, h_]; rw [aB]; exact .inl ⟨rfl, _, rfl⟩, fun _ h => h.elim, fun _ h => h.elim, fun _ _ h => h.elim, fun _ h => h.elim⟩⟩
         obtain ⟨af, ai⟩ := i_ w rfl
         cases z2 <;> rcases r9 with ⟨fv, rfl⟩ | rfl <;> simp at af ai <;> simp [Builtin.append_, run_underlying cv, run_underlying hu, j0 f1, af, ai, storeCells]
        ·exact grow z2 0 [] (fun _ => False) rfl (Es z2) (by rw [bm]) (by simp) (fun _ h => h.elim) (by
          cases cp with
          | nil => exact (IB rfl).elim
          | cons y cp => simp)
       ·simp at k7; subst k7
        by_cases o9 : xs.length + cp.length ≤ cap
        ·
         have wR := bm.r_ fg j4
         have hlen : cur.toList.length = cap * (C.T e).sz := by simp [dU]
         have hle : (xs.length + cp.length) * (C.T e).sz ≤ cap * (C.T e).sz := Nat.mul_le_mul_right _ o9
         rw [Nat.add_mul] at hle
         have kY : cur.toList = cur.toList.take (xs.length * (C.T e).sz) ++ ((cur.toList.drop (xs.length * (C.T e).sz)).take news.length ++ (cur.toList.drop (xs.length * (C.T e).sz)).drop news.length) := by
          rw [List.take_append_drop, List.take_append_drop]
         obtain ⟨aP, fM, gN, hI, kF, mg, cC, n8⟩ := Qs (ty := ty) (n := xs.length) (m := cp.length) (cap := cap) cv hu r9 f1 i_ cB fD kY (by rw [f2]; exact wR) (by simp [hlen, qQ]; omega) (bm.r1 _ _ _ lR) o9
         have QD := kH.turn hI kF mg cC n8 (a5 b cf) (fun u hu => kB u b cf hu) (o8 b cf)
         have tT : ∀ c, F c → aP.heap[c]? = w.heap[c]? := fun c ay => hI c (by rintro rfl; exact a5 _ cf ay)
         refine ⟨_, aP, F, gS, fM, QD, .inr ⟨rfl, rfl, fun c => Sn c ∨ mU c, ?_, ?_, ?_, ?_, ?_⟩⟩
         ·simp only [c1, h_]
          rw [aB]
          have IC : (cur.toList.take (xs.length * (C.T e).sz) ++ (news ++ (cur.toList.drop (xs.length * (C.T e).sz)).drop news.length)).toArray.size = cur.size := by
           have : cur.size = cur.toList.length := by simp
           rw [this]
           conv => rhs; rw [kY]
           simp [hlen, qQ]; omega
          refine .inr ⟨b, cap, _, gB, fr, fun c => a7 c ∨ mU c, by simp, .inl cf, gN, by rw [IC]; exact fD, by simpa using o9, gA, by rw [IC]; exact dU, ?_, ?_, ?_, ?_⟩
          ·intro d ak
           rcases List.mem_append.1 ak with ak | ak
           ·exact j4 d ak
           ·exact ud d ak
          ·have Ez := bm.frame tT _ _ _ (fun c ay => hI c (by rintro rfl; exact lP ay)) fg
           have zG := bm.frame tT _ _ _ (fun c ay => hI c (by rintro rfl; exact nB _ cf ay)) lR
           have : ((cur.toList.take (xs.length * (C.T e).sz) ++ (news ++ (cur.toList.drop (xs.length * (C.T e).sz)).drop news.length)).toArray.toList.take ((xs ++ cp).length * (C.T e).sz)) = cur.toList.take (xs.length * (C.T e).sz) ++ news := by
            simp only []
            rw [← List.append_assoc]
            exact List.take_left' (by rw [List.length_append, wR, qQ, List.length_append, Nat.add_mul])
           rw [this]
           exact bm.append Ez zG (fun _ h => .inl h) (fun _ h => .inr h) (fun c af ai => nB c (lO c af) ai)
          ·rintro c (ay | ay)
           ·exact .inl (lO c ay)
           ·exact .inr ay
          ·rintro (ay | ay)
           ·exact lP ay
           ·exact nB b cf ay
         ·rw [kF]; rintro c (ay | ay); exact a4 c ay; exact mh c ay
         ·rintro c (ay | ay); exact a5 c ay; exact bz c ay
         ·rintro u c (ay | ay); exact kB u c ay; exact bO u c ay
         ·rintro c (ay | ay); exact o8 c ay; exact cM c ay
        ·exact grow (some ⟨b, 0, none⟩) cap _ a7 rfl (Er (tO cB _) (by rw [f2]; exact bm.r_ fg j4)) fg j4 lO o9
      ·cases he
     ·cases he
    ·cases he
   ·cases he
  ·cases he
 ·cases he
end
end Go.c5
